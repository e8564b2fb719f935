/-
  What some of the program's functions compute: their models, and that the functions compute these; no condition.
-/
import Derived.Test.YtjgjdobkahdgfaaGreatTyz
import Derived.Test.YtjgjdobkahdgfaaGreatTbz
import Derived.Test.YtjgjdobkahdgfaaGreatAbz7
import Derived.Test.YtjgjdobkahdgfaaGreatKz4
set_option linter.all false
namespace Go.Proofs.YtjgjdobkahdgfaaGreat
open Go Go.Ab
set_option maxRecDepth 100000
set_option maxHeartbeats 40000000
noncomputable def QK (a0:(List Qv1)) (a1c0:Qv7):Option (Bool) :=
 bd (QB a0 a1c0) fun x1 =>
 some (decide (x1 ≥ 0))
theorem JR {a0:(List Qv1)} {a1c0:Qv7} {r:Bool} (h:QK a0 a1c0=some r):PureC Tryz.prog 92 [.d (slD Qv1.enc a0),.fn 93 [.rp [.int .i64 a1c0.From,.int .i64 a1c0.To,.int .i64 a1c0.Key,.int .i64 a1c0.Boot,.int .i64 a1c0.Yours,.int .i64 a1c0.Turn,.int .i64 a1c0.Num,.int .i64 a1c0.Heard,.int .i64 a1c0.Change.Kind,.int .i64 a1c0.Change.Entry.Addr,.int .i64 a1c0.Change.Entry.Len,.int .i64 a1c0.Change.Entry.Cost,.int .i64 a1c0.Change.Entry.Label,.int .i64 a1c0.Sum]]] (dB r) []:=by
  refine Qt tOk (fn:=Tryz.f92) (c:=Qj Tryz.f92) rfl rfl ?_;unfold QK at h;(conv=>whnf);obtain ⟨x1,hx1,h⟩:=Qa h;refine cC 0 (Qaa hx1) ?_;clear hx1;(conv=>whnf);obtain rfl:=sj_ h;exact lfP []
noncomputable def Qaj (a0:(List Qv1)) (a1:Qv7):Option (Bool) :=
 bd (Z3 a0) fun x1 =>
 bd (gcall (x1=true) (Jn a1)) fun x2 =>
 bd (gcall ((x1 && x2)=true) (QK a0 a1)) fun x3 =>
 some ((x1 && x2) && x3)
theorem Qez {a0:(List Qv1)} {a1:Qv7} {r:Bool} (h:Qaj a0 a1=some r):PureC Tryz.prog 55 [.d (slD Qv1.enc a0),.agg (hwC a1)] (dB r) []:=by
  refine Qt tOk (fn:=Tryz.f55) (c:=Qj Tryz.f55) rfl rfl ?_;unfold Qaj at h;(conv=>whnf);obtain ⟨x1,hx1,h⟩:=Qa h;refine cC 0 (Qbu hx1) ?_;clear hx1;(conv=>whnf);obtain ⟨x2,hx2,h⟩:=Qa h;refine cG (fun c0=>QcE (Qf hx2 c0)) ?_;(conv=>whnf);obtain ⟨x3,hx3,h⟩:=Qa h;refine cG (fun c0=>JR (Qf hx3 c0)) ?_;(conv=>whnf);obtain rfl:=sj_ h;exact lfP []
noncomputable def JS (a0:Qv5) (a1:Qv7):Option (Bool) :=
 bd (ZR a0) fun x1 =>
 bd (gcall (x1=false) (Qaj a0.Keys a1)) fun x2 =>
(if (((x1 || (!x2)) || (a1.From != a0.Peer)) || (a1.To != a0.Name))=true then
 some false
else
 some ((decide (a1.Boot > a0.PeerBoot)) || ((a1.Boot == a0.PeerBoot) && (decide (a1.Turn > a0.PeerTurn)))))
theorem QfD {a0:Qv5} {a1:Qv7} {r:Bool} (h:JS a0 a1=some r):PureC Tryz.prog 130 [.rp [.int .i64 a0.Name,.int .i64 a0.Peer,slD Qv1.enc a0.Keys,.int .i64 a0.Boot,slD Qv2.enc a0.Want,.int .i64 a0.Turn,.int .i64 a0.PeerBoot,.int .i64 a0.PeerTurn,.bool a0.Up,.int .i64 a0.Left,.int .i64 a0.Num,.int .i64 a0.Under.Kind,.int .i64 a0.Under.Entry.Addr,.int .i64 a0.Under.Entry.Len,.int .i64 a0.Under.Entry.Cost,.int .i64 a0.Under.Entry.Label,slD Qv2.enc a0.Told,.bool a0.All,.int .i64 a0.Got,.bool a0.Full,slD Qv4.enc a0.Heard,.int .i64 a0.Keep],.agg (hwC a1)] (dB r) []:=by
  refine Qt tOk (fn:=Tryz.f130) (c:=Qj Tryz.f130) rfl rfl ?_;unfold JS at h;(conv=>whnf);refine Qe tOk ?_;(conv=>whnf);obtain ⟨x1,hx1,h⟩:=Qa h;obtain ⟨x2,hx2,h⟩:=Qa h;refine QP tOk [.u 1 0 (dB x1) [],.u 8 0 (dB x2) []] 29 [] [0,1,3,7,15,31,63,7,255,511,1023,2047,4095,8191,4095,20479,53247,118783,262143,524287,1048575,2097151,4194303,2097151,10485759,27262975,60817407,134217727,268435455] [] ?_;(conv=>whnf);refine And.intro (QM (QcF hx1) (by kernel_rfl)) ?_;(conv=>whnf);refine And.intro (Q1 rfl rfl rfl rfl (by intro c0; exact Qez (Qf hx2 c0))) ?_;(conv=>whnf);refine And.intro (by kernel_rfl) ?_;(conv=>whnf);refine Qu h (fun _ h=>?_) (fun _ h=>?_)
  · (conv=>whnf);obtain rfl:=sj_ h;exact lfP []
  · (conv=>whnf);refine QP tOk [] 26 [] [0,1,0,4,12,28,63,127,255,511,255,1279,3327,7423,16383,32767,65535,131071,65535,327679,851967,1900543,4194303,8388607,16777215,33554431] [] ?_;(conv=>whnf);refine And.intro (by kernel_rfl) ?_;(conv=>whnf);obtain rfl:=sj_ h;exact lfP []
noncomputable def Zy (a0:Qv5):Option (Qv5) :=
 bd (lp (σ:=List Qv4 × Int) (β:=(Nat × (List Qv4))) (fun s1 =>
(if (decide (s1.2<((a0.Heard.length:Nat):Int)))=true then
 gd ((0:Int)≤s1.2∧s1.2<((s1.1.length:Nat):Int)) <|
 some (.inl (s1.1.set s1.2.toNat (⟨((s1.1.getD s1.2.toNat default).Entry),true⟩:Qv4),IntKind.i64.wrap (s1.2+1)))
else
 some (.inr (s1.1.length,s1.1)))) (a0.Heard,0)) fun x4 =>
(if ((decide (((x4.1:Nat):Int) > 0)) && (a0.Keep == 0))=true then
 some ({ a0 with Up:=false,Num:=0,Under:=(⟨0,(⟨0,0,0,0⟩:Qv2)⟩:Qv3),Told:=[],All:=false,Got:=0,Full:=false,Heard:=x4.2,Keep:=6 })
else
 some ({ a0 with Up:=false,Num:=0,Under:=(⟨0,(⟨0,0,0,0⟩:Qv2)⟩:Qv3),Told:=[],All:=false,Got:=0,Full:=false,Heard:=x4.2 }))
theorem Qcf {a0:Qv5} {r:Qv5} (h:Zy a0=some r):EffC Tryz.prog 98 [.ref 9000 0 0] [(9000,.box 36 (heC a0 (.osl 9001 0 a0.Heard.length))),(9001,.arr 96 5 a0.Heard.length (rows Qv4.enc a0.Heard))] (.tup []) [(9000,.box 36 (dI a0.Name :: dI a0.Peer :: .d (slD Qv1.enc a0.Keys) :: dI a0.Boot :: .d (slD Qv2.enc a0.Want) :: dI a0.Turn :: dI a0.PeerBoot :: dI a0.PeerTurn :: dB r.Up :: dI a0.Left :: dI r.Num :: dI r.Under.Kind :: hnC r.Under.Entry ++ [.d (slD Qv2.enc r.Told),dB r.All,dI r.Got,dB r.Full,.osl 5001 0 r.Heard.length,dI r.Keep])),(5001,.arr 96 5 r.Heard.length (rows Qv4.enc r.Heard))]:=by
  refine QQ tOk (fn:=Tryz.f98) (c:=Qj Tryz.f98) rfl rfl ?_;unfold Zy at h;(conv=>whnf);refine Qe tOk ?_;(conv=>whnf);obtain ⟨x4,hx4,h⟩:=Qa h;refine Zh tOk hx4 (fun s1=>⟨0,57,[(0,.ref 9000 0 0),(29,dI ((a0.Heard.length:Nat):Int)),(30,dI s1.2)],[],[(9000,.box 36 [dI a0.Name,dI a0.Peer,.d (slD Qv1.enc a0.Keys),dI a0.Boot,.d (slD Qv2.enc a0.Want),dI a0.Turn,dI a0.PeerBoot,dI a0.PeerTurn,dB false,dI a0.Left,dI 0,dI 0,dI 0,dI 0,dI 0,dI 0,.d (.nil),dB false,dI 0,dB false,.osl 9001 0 s1.1.length,dI a0.Keep]),(9001,.arr 96 5 s1.1.length (rows Qv4.enc s1.1))],[⟨[(0,.ref 9000 0 0)],[]⟩]⟩) ?_ ?_
  · exact leX []
  · clear hx4;intro s1 y2 g3 hy2;(conv=>whnf);refine Qe tOk ?_;(conv=>whnf);refine Qu g3 (fun _ g3=>?_) (fun _ g3=>?_)
    · (conv=>whnf);refine Qe tOk ?_;(conv=>whnf);refine gdI g3 (fun g3=>?_);(conv=>whnf);refine ⟨rows Qv4.enc (s1.1.set s1.2.toNat (⟨((s1.1.getD s1.2.toNat default).Entry),true⟩:Qv4)),Zd Qjk rfl,?_⟩;(conv=>whnf);obtain rfl:=sj_ g3;exact ⟨_,rfl,leX []⟩
    · (conv=>whnf);obtain rfl:=sj_ g3;obtain rfl:=hy2 _ rfl;refine Qu h (fun _ h=>?_) (fun _ h=>?_)
      · (conv=>whnf);obtain rfl:=sj_ h;exact lfE [.s [(5001,9001),(9001,5001)]]
      · (conv=>whnf);obtain rfl:=sj_ h;exact lfE [.s [(5001,9001),(9001,5001)]]
noncomputable def Zm (a0:Qv4) (a1:Qwa):Option (Int) :=
 bd (Qr a0.Entry) fun x1 =>
 bd (Zz x1 a1) fun x2 =>
 some x2
theorem QbH {a0:Qv4} {a1:Qwa} {r:Int} (h:Zm a0 a1=some r):PureC Tryz.prog 169 [.agg (hnC a0.Entry ++ [dB a0.Stale]),.agg [dI a1.Addr,dI a1.Len]] (dI r) []:=by
  refine Qt tOk (fn:=Tryz.f169) (c:=Qj Tryz.f169) rfl rfl ?_;unfold Zm at h;(conv=>whnf);obtain ⟨x1,hx1,h⟩:=Qa h;obtain ⟨x2,hx2,h⟩:=Qa h;refine QP tOk [.u 2 0 (.agg [dI x1.Addr,dI x1.Len]) [],.u 4 0 (dI x2) []] 6 [] [0,1,3,0,15,31] [] ?_;(conv=>whnf);refine And.intro (QM (Qy hx1) (by kernel_rfl)) ?_;(conv=>whnf);refine And.intro (QM (QaP hx2) (by kernel_rfl)) ?_;(conv=>whnf);refine And.intro (by kernel_rfl) ?_;(conv=>whnf);obtain rfl:=sj_ h;exact lfP []
noncomputable def Qh (a0:(List Qv4)) (a1:Qwa):Option (Int × Bool) :=
 bd (lp (σ:=Int × Int) (β:=(Int)) (fun s1 =>
(if (decide (s1.2<s1.1))=true then
 gd ((0:Int)≤1) <|
 gd ((0:Int)≤IntKind.i64.wrap ((IntKind.u64.wrap (IntKind.i64.wrap (s1.2+s1.1)):Int).fdiv (2 ^ min (1:Int).toNat IntKind.u64.bits))∧IntKind.i64.wrap ((IntKind.u64.wrap (IntKind.i64.wrap (s1.2+s1.1)):Int).fdiv (2 ^ min (1:Int).toNat IntKind.u64.bits))<((a0.length:Nat):Int)) <|
 bd (Zm (⟨((a0.getD ((IntKind.i64.wrap ((IntKind.u64.wrap (IntKind.i64.wrap (s1.2+s1.1)):Int).fdiv (2 ^ min (1:Int).toNat IntKind.u64.bits))).toNat) default).Entry),(a0.getD ((IntKind.i64.wrap ((IntKind.u64.wrap (IntKind.i64.wrap (s1.2+s1.1)):Int).fdiv (2 ^ min (1:Int).toNat IntKind.u64.bits))).toNat) default).Stale⟩:Qv4) a1) fun x7 =>
(if (decide (x7<0))=true then
 some (.inl (s1.1,IntKind.i64.wrap ((IntKind.i64.wrap ((IntKind.u64.wrap (IntKind.i64.wrap (s1.2+s1.1)):Int).fdiv (2 ^ min (1:Int).toNat IntKind.u64.bits)))+1)))
else
 some (.inl (IntKind.i64.wrap ((IntKind.u64.wrap (IntKind.i64.wrap (s1.2+s1.1)):Int).fdiv (2 ^ min (1:Int).toNat IntKind.u64.bits)),s1.2)))
else
 some (.inr s1.2))) (((a0.length:Nat):Int),0)) fun x4 =>
 gd ((decide (x4<((a0.length:Nat):Int)))=true→((0:Int)≤x4∧x4<((a0.length:Nat):Int))) <|
 bd (gcall ((decide (x4<((a0.length:Nat):Int)))=true) (Zm (⟨((a0.getD x4.toNat default).Entry),(a0.getD x4.toNat default).Stale⟩:Qv4) a1)) fun x10 =>
 some (x4,((decide (x4<((a0.length:Nat):Int))) && (x10 == 0)))
theorem Zu {a0:(List Qv4)} {a1:Qwa} {r:Int × Bool} (h:Qh a0 a1=some r):PureC Tryz.prog 168 [.d (slD Qv4.enc a0),.agg [dI a1.Addr,dI a1.Len],.fn 169 []] (.tup [dI r.1,dB r.2]) []:=by
  refine Qt tOk (fn:=Tryz.f168) (c:=Qj Tryz.f168) rfl rfl ?_;unfold Qh at h;(conv=>whnf);refine Qe tOk ?_;(conv=>whnf);obtain ⟨x4,hx4,h⟩:=Qa h;refine Zh tOk hx4 (fun s1=>⟨0,49,[(0,.d (slD Qv4.enc a0)),(2,.fn 169 []),(4,.ref 4 0 0),(8,dI ((a0.length:Nat):Int)),(9,dI s1.2),(10,dI s1.1)],[],[(4,.box 112 [dI a1.Addr,dI a1.Len])],[]⟩) ?_ ?_
  · exact leX []
  · clear hx4;intro s1 y2 g3 hy2;(conv=>whnf);refine Qe tOk ?_;(conv=>whnf);refine Qu g3 (fun _ g3=>?_) (fun _ g3=>?_)
    · (conv=>whnf);refine gdI g3 (fun g3=>?_);(conv=>whnf);obtain ⟨g6,g3⟩:=Qg g3;obtain ⟨x7,hx7,g3⟩:=Qa g3;refine QP tOk [.u 6 0 (dI x7) []] 8 [] [0,0,0,6,14,0,63,127] [] ?_;(conv=>whnf);refine And.intro g6 ?_;clear g6;(conv=>whnf);refine And.intro (QM (QbH hx7) (by kernel_rfl)) ?_;(conv=>whnf);refine And.intro (by kernel_rfl) ?_;(conv=>whnf);refine Qu g3 (fun _ g3=>?_) (fun _ g3=>?_)
      · (conv=>whnf);obtain rfl:=sj_ g3;exact ⟨_,rfl,leX []⟩
      · (conv=>whnf);obtain rfl:=sj_ g3;exact ⟨_,rfl,leX []⟩
    · (conv=>whnf);obtain rfl:=sj_ g3;obtain rfl:=hy2 _ rfl;obtain ⟨g9,h⟩:=Qg h;obtain ⟨x10,hx10,h⟩:=Qa h;refine QP tOk [.u 11 0 (dI x10) []] 16 [] [0,0,0,6,14,30,30,30,222,478,30,2046,4094,8190,4095,32767] [] ?_;(conv=>whnf);refine And.intro g9 ?_;clear g9;(conv=>whnf);refine And.intro (Q1 rfl rfl rfl rfl (by intro c0; exact QbH (Qf hx10 c0))) ?_;(conv=>whnf);refine And.intro (by kernel_rfl) ?_;(conv=>whnf);obtain rfl:=sj_ h;exact lfP []
noncomputable def Zi (a0:Qv5) (a1:Qwa):Option (Int × Bool) :=
 bd (Qh a0.Heard a1) fun x1 =>
 some (x1.1,x1.2)
theorem QaK {a0:Qv5} {a1:Qwa} {r:Int × Bool} (h:Zi a0 a1=some r):PureC Tryz.prog 155 [.rp [.int .i64 a0.Name,.int .i64 a0.Peer,slD Qv1.enc a0.Keys,.int .i64 a0.Boot,slD Qv2.enc a0.Want,.int .i64 a0.Turn,.int .i64 a0.PeerBoot,.int .i64 a0.PeerTurn,.bool a0.Up,.int .i64 a0.Left,.int .i64 a0.Num,.int .i64 a0.Under.Kind,.int .i64 a0.Under.Entry.Addr,.int .i64 a0.Under.Entry.Len,.int .i64 a0.Under.Entry.Cost,.int .i64 a0.Under.Entry.Label,slD Qv2.enc a0.Told,.bool a0.All,.int .i64 a0.Got,.bool a0.Full,slD Qv4.enc a0.Heard,.int .i64 a0.Keep],.agg [dI a1.Addr,dI a1.Len]] (.tup [dI r.1,dB r.2]) []:=by
  refine Qt tOk (fn:=Tryz.f155) (c:=Qj Tryz.f155) rfl rfl ?_;unfold Zi at h;(conv=>whnf);obtain ⟨x1,hx1,h⟩:=Qa h;refine QP tOk [.u 5 0 (.tup [dI x1.1,dB x1.2]) []] 10 [] [0,1,3,7,0,31,63,63,255,511] [] ?_;(conv=>whnf);refine And.intro (QM (Zu hx1) (by kernel_rfl)) ?_;(conv=>whnf);refine And.intro (by kernel_rfl) ?_;(conv=>whnf);obtain rfl:=sj_ h;exact lfP []
noncomputable def Qae (a0:Qv4):Option (Bool) :=
 some a0.Stale
theorem QeU {a0:Qv4} {r:Bool} (h:Qae a0=some r):PureC Tryz.prog 166 [.agg (hnC a0.Entry ++ [dB a0.Stale])] (dB r) []:=by
  refine Qt tOk (fn:=Tryz.f166) (c:=Qj Tryz.f166) rfl rfl ?_;unfold Qae at h;(conv=>whnf);obtain rfl:=sj_ h;exact lfP []
noncomputable def Qv (a0:(List Qv4)):Option (Int) :=
 bd (lp (σ:=Int) (β:=(Int ⊕ Unit)) (fun s1 =>
(if (decide (s1<((a0.length:Nat):Int)))=true then
 gd ((0:Int)≤s1∧s1<((a0.length:Nat):Int)) <|
 bd (Qae (⟨((a0.getD s1.toNat default).Entry),(a0.getD s1.toNat default).Stale⟩:Qv4)) fun x6 =>
(if x6=true then
 some (.inr (.inl s1))
else
 some (.inl (IntKind.i64.wrap (s1+1))))
else
 some (.inr (.inr ())))) 0) fun x4 =>
(match x4 with
| .inl d7 =>
 some d7
| .inr d8 =>
 some (-1))
theorem Jt {a0:(List Qv4)} {r:Int} (h:Qv a0=some r):PureC Tryz.prog 122 [.d (slD Qv4.enc a0),.fn 166 []] (dI r) []:=by
  refine Qt tOk (fn:=Tryz.f122) (c:=Qj Tryz.f122) rfl rfl ?_;unfold Qv at h;(conv=>whnf);refine Qe tOk ?_;(conv=>whnf);obtain ⟨x4,hx4,h⟩:=Qa h;refine Zh tOk hx4 (fun s1=>⟨0,19,[(0,.d (slD Qv4.enc a0)),(1,.fn 166 []),(7,dI ((a0.length:Nat):Int)),(8,dI s1)],[],[],[]⟩) ?_ ?_
  · exact leX []
  · clear hx4;intro s1 y2 g3 hy2;(conv=>whnf);refine Qe tOk ?_;(conv=>whnf);refine Qu g3 (fun _ g3=>?_) (fun _ g3=>?_)
    · (conv=>whnf);refine Qe tOk ?_;(conv=>whnf);refine gdI g3 (fun g3=>?_);(conv=>whnf);obtain ⟨x6,hx6,g3⟩:=Qa g3;refine cC 0 (QeU hx6) ?_;clear hx6;(conv=>whnf);refine Qu g3 (fun _ g3=>?_) (fun _ g3=>?_)
      · (conv=>whnf);obtain rfl:=sj_ g3;obtain rfl:=hy2 _ rfl;obtain rfl:=sj_ h;exact lfP []
      · (conv=>whnf);obtain rfl:=sj_ g3;exact ⟨_,rfl,leX []⟩
    · (conv=>whnf);obtain rfl:=sj_ g3;obtain rfl:=hy2 _ rfl;obtain rfl:=sj_ h;exact lfP []
noncomputable def QO (a0:(List Qv4)) (a1:Int) (a2:Int):Option ((List Qv4)) :=
 gd (0≤a1∧a1≤a2∧a2≤a0.length) <|
 some (Qjs a0 a1.toNat a2.toNat)
theorem Qab {a0:(List Qv4)} {a1:Int} {a2:Int} {r:(List Qv4)} (h:QO a0 a1 a2=some r):EffC Tryz.prog 156 [.osl 9000 0 a0.length,dI a1,dI a2] [(9000,.arr 96 5 a0.length (rows Qv4.enc a0))] (.osl 5001 0 r.length) [(5001,.arr 96 5 r.length (rows Qv4.enc r))]:=by
  unfold QO at h;have L:LDel Tryz.prog ⟨fun x=>match x with | 45=>156 | _=>0,fun x=>match x with | 0=>0 | 3=>3 | 4=>4 | 22=>34 | 23=>96 | _=>0,fun x=>x⟩ 5 (.agg #[.int .i64 0,.int .i64 0,.int .i64 0,.int .i64 0,.bool false]):=⟨by kernel_rfl,⟨Tryz.f156.name,by kernel_rfl,by kernel_rfl⟩,by kernel_rfl,fun w=>by kernel_rfl,fun w=>by kernel_rfl,fun w=>by kernel_rfl,by kernel_rfl,fun w=>by kernel_rfl,fun w=>by kernel_rfl,fun w=>by kernel_rfl,by kernel_rfl,fun w=>by kernel_rfl,fun w=>by kernel_rfl,fun w=>by kernel_rfl,by kernel_rfl,fun w=>by kernel_rfl,fun w=>by kernel_rfl,fun w=>by kernel_rfl,⟨_,rfl,rfl⟩,fun w=>by kernel_rfl,fun w=>by kernel_rfl,by kernel_rfl,fun u hu=>List.all_eq_true.1 (by kernel_rfl:(List.all (Value.cells (.agg #[.int .i64 0,.int .i64 0,.int .i64 0,.int .i64 0,.bool false])).toList Value.oneCell')=true) u hu⟩;obtain ⟨g,h⟩:=Qg h;obtain rfl:=sj_ h;have k:=QlG (t:=96) (enc:=Qv4.enc) L (Qqy (fn:=Tryz.f156) (c:=Qj Tryz.f156) rfl rfl (by kernel_rfl)) (fun _=>rfl) (xs:=a0) (i:=a1.toNat) (j:=a2.toNat) (by omega) (by omega);rw [show ((a1.toNat:Nat):Int)=a1 by omega,show ((a2.toNat:Nat):Int)=a2 by omega] at k;exact k
noncomputable def QZ (a0:(List Qv4)) (a1:Int) (a2:(List Qv4)):Option ((List Qv4)) :=
 gd ((0≤a1∧a1≤a0.length)∧0<a2.length∧(a0.length+a2.length)*(40+1)≤70368744177664) <|
 some (Qov a0 a1.toNat a2)
theorem Qb8 {a0:(List Qv4)} {a1:Int} {a2:(List Qv4)} {r:(List Qv4)} (h:QZ a0 a1 a2=some r):EffC Tryz.prog 167 [.osl 9000 0 a0.length,dI a1,.osl 9001 0 a2.length] [(9000,.arr 96 5 a0.length (rows Qv4.enc a0)),(9001,.arr 96 5 a2.length (rows Qv4.enc a2))] (.osl 5001 0 r.length) [(5001,.arr 96 5 r.length (rows Qv4.enc r))]:=by
  unfold QZ at h;have L:LIns Tryz.prog ⟨fun x=>match x with | 22=>167 | 29=>175 | 30=>176 | _=>0,fun x=>match x with | 0=>0 | 3=>3 | 4=>4 | 9=>96 | 24=>34 | _=>0,fun x=>x⟩ 5 40 (.agg #[.int .i64 0,.int .i64 0,.int .i64 0,.int .i64 0,.bool false]):=⟨by kernel_rfl,⟨Tryz.f167.name,by kernel_rfl,by kernel_rfl⟩,⟨Tryz.f175,by kernel_rfl,by kernel_rfl,by kernel_rfl,by kernel_rfl,by kernel_rfl⟩,by kernel_rfl,fun w=>by kernel_rfl,fun w=>by kernel_rfl,fun w=>by kernel_rfl,by kernel_rfl,fun w=>by kernel_rfl,fun w=>by kernel_rfl,fun w=>by kernel_rfl,by kernel_rfl,fun w=>by kernel_rfl,fun w=>by kernel_rfl,fun w=>by kernel_rfl,by kernel_rfl,fun w=>by kernel_rfl,fun w=>by kernel_rfl,fun w=>by kernel_rfl,⟨_,rfl,rfl,rfl,rfl⟩,fun w=>by kernel_rfl,by kernel_rfl,fun u hu=>List.all_eq_true.1 (by kernel_rfl:(List.all (Value.cells (.agg #[.int .i64 0,.int .i64 0,.int .i64 0,.int .i64 0,.bool false])).toList Value.oneCell')=true) u hu,by decide⟩;obtain ⟨g,h⟩:=Qg h;obtain rfl:=sj_ h;have k:=Qow (t:=96) (enc:=Qv4.enc) L (Qqy (fn:=Tryz.f167) (c:=Qj Tryz.f167) rfl rfl (by kernel_rfl)) (fun _=>rfl) (xs:=a0) (ys:=a2) (i:=a1.toNat) (by omega) g.2.1 g.2.2;rw [show ((a1.toNat:Nat):Int)=a1 by omega] at k;exact k
noncomputable def JT (a0:Qv5) (a1:Qv2):Option (Bool × Qv5) :=
 bd (Qr a1) fun x1 =>
 bd (Zi a0 x1) fun x2 =>
(if x2.2=true then
 gd ((0:Int)≤x2.1∧x2.1<((a0.Heard.length:Nat):Int)) <|
 some (true,{ a0 with Heard:=a0.Heard.set x2.1.toNat (⟨a1,false⟩:Qv4) })
else
 bd (α:=(List Qv4) ⊕ Unit) ((if (((a0.Heard.length:Nat):Int) == 16)=true then
 bd (Qv a0.Heard) fun x7 =>
(if (decide (x7<0))=true then
 some (.inr ())
else
 bd (QO a0.Heard x7 (IntKind.i64.wrap (x7+1))) fun x8 =>
 some (.inl x8))
else
 some (.inl a0.Heard))) fun x4 =>
(match x4 with
| .inl d6 =>
 bd (Qr a1) fun x9 =>
 bd (Zi ({ a0 with Heard:=d6 }) x9) fun x10 =>
 bd (QZ d6 x10.1 ([(⟨a1,false⟩:Qv4)]:List Qv4)) fun x11 =>
 some (true,{ a0 with Heard:=x11 })
| .inr d12 =>
 some (false,a0)))
theorem QfE {a0:Qv5} {a1:Qv2} {r:Bool × Qv5} (h:JT a0 a1=some r):EffC Tryz.prog 154 [.ref 9000 0 0,.agg (hnC a1)] [(9000,.box 36 (heC a0 (.osl 9001 0 a0.Heard.length))),(9001,.arr 96 5 a0.Heard.length (rows Qv4.enc a0.Heard))] (dB r.1) [(9000,.box 36 (heC a0 (.osl 5001 0 r.2.Heard.length))),(5001,.arr 96 5 r.2.Heard.length (rows Qv4.enc r.2.Heard))]:=by
  refine QQ tOk (fn:=Tryz.f154) (c:=Qj Tryz.f154) rfl rfl ?_;unfold JT at h;(conv=>whnf);refine Qe tOk ?_;(conv=>whnf);obtain ⟨x1,hx1,h⟩:=Qa h;refine cC 0 (Qy hx1) ?_;clear hx1;(conv=>whnf);obtain ⟨x2,hx2,h⟩:=Qa h;refine cC 0 (QaK hx2) ?_;clear hx2;(conv=>whnf);refine Qu h (fun _ h=>?_) (fun _ h=>?_)
  · (conv=>whnf);obtain ⟨g3,h⟩:=Qg h;refine QP tOk [] 8 [] [0,1,3,7,0,0,32,127] [255] ?_;(conv=>whnf);refine And.intro g3 ?_;clear g3;(conv=>whnf);refine And.intro (by kernel_rfl) ?_;(conv=>whnf);refine ⟨rows Qv4.enc (a0.Heard.set x2.1.toNat (⟨a1,false⟩:Qv4)),Zd Qjk rfl,?_⟩;(conv=>whnf);obtain rfl:=sj_ h;exact lfE [.s [(5001,9001),(9001,5001)]]
  · (conv=>whnf);obtain ⟨x4,hx4,h⟩:=Qa h;refine Ji tOk (fun s5=>⟨0,69,[(0,.ref 9000 0 0),(3,.ref 3 0 0)],[],[(6001,.arr 96 5 s5.length (rows Qv4.enc s5)),(3,.box 31 (hnC a1)),(9000,.box 36 (heC a0 (.osl 6001 0 s5.length)))],[⟨[(0,.ref 9000 0 0)],[]⟩]⟩) (fun s5=>x4=.inl s5) ?_ ?_
    · (conv=>whnf);refine Qu hx4 (fun _ hx4=>?_) (fun _ hx4=>?_)
      · (conv=>whnf);obtain ⟨x7,hx7,hx4⟩:=Qa hx4;refine cC 0 (Jt hx7) ?_;clear hx7;(conv=>whnf);refine Qe tOk ?_;(conv=>whnf);refine Qu hx4 (fun _ hx4=>?_) (fun _ hx4=>?_)
        · (conv=>whnf);obtain rfl:=sj_ hx4;obtain rfl:=sj_ h;exact lfE [.s [(5001,9001),(9001,5001)]]
        · (conv=>whnf);obtain ⟨x8,hx8,hx4⟩:=Qa hx4;refine cE [(9000,9001)] 1000 (Qab hx8) ?_;(conv=>whnf);obtain rfl:=sj_ hx4;exact ⟨_,rfl,leX []⟩
      · (conv=>whnf);obtain rfl:=sj_ hx4;exact ⟨_,rfl,leX [.s [(6001,9001),(9001,6001)]]⟩
    · intro d6 hdd6;subst hdd6;(conv=>whnf);obtain ⟨x9,hx9,h⟩:=Qa h;refine cC 0 (Qy hx9) ?_;clear hx9;(conv=>whnf);obtain ⟨x10,hx10,h⟩:=Qa h;refine cC 0 (QaK hx10) ?_;clear hx10;(conv=>whnf);obtain ⟨x11,hx11,h⟩:=Qa h;refine JA tOk [.a 8 [] (.osl 65 0 (([(⟨a1,false⟩:Qv4)]:List Qv4).length)) [(65,.arr 96 5 (([(⟨a1,false⟩:Qv4)]:List Qv4).length) (rows Qv4.enc ([(⟨a1,false⟩:Qv4)]:List Qv4)))],.e 9 [(6001,.arr 96 5 d6.length (rows Qv4.enc d6)),(65,.arr 96 5 (([(⟨a1,false⟩:Qv4)]:List Qv4).length) (rows Qv4.enc ([(⟨a1,false⟩:Qv4)]:List Qv4)))] (.osl 7001 0 x11.length) [(7001,.arr 96 5 x11.length (rows Qv4.enc x11))] []] 12 [] [0,0,2,6,14,0,0,64,192,510,1023,2047] [4095] [6001] ?_;(conv=>whnf);refine And.intro (by (conv=>whnf); exact QcT (enc:=Qv4.enc) ([(⟨a1,false⟩:Qv4)]:List Qv4) ⟨rfl,rfl⟩) ?_;(conv=>whnf);refine And.intro (eD [(9000,6001),(9001,65)] 2000 (Qb8 hx11)) ?_;(conv=>whnf);refine And.intro (by kernel_rfl) ?_;(conv=>whnf);obtain rfl:=sj_ h;exact lfE [.s [(5001,7001),(7001,5001)]]
noncomputable def Q7 (a0:Qv4):Option (Bool) :=
 some a0.Stale
theorem QbI {a0:Qv4} {r:Bool} (h:Q7 a0=some r):PureC Tryz.prog 137 [.agg (hnC a0.Entry ++ [dB a0.Stale])] (dB r) []:=by
  refine Qt tOk (fn:=Tryz.f137) (c:=Qj Tryz.f137) rfl rfl ?_;unfold Q7 at h;(conv=>whnf);obtain rfl:=sj_ h;exact lfP []
noncomputable def Qs (a0:(List Qv4)):Option (Int) :=
 bd (lp (σ:=Int) (β:=(Int ⊕ Unit)) (fun s1 =>
(if (decide (s1<((a0.length:Nat):Int)))=true then
 gd ((0:Int)≤s1∧s1<((a0.length:Nat):Int)) <|
 bd (Q7 (⟨((a0.getD s1.toNat default).Entry),(a0.getD s1.toNat default).Stale⟩:Qv4)) fun x6 =>
(if x6=true then
 some (.inr (.inl s1))
else
 some (.inl (IntKind.i64.wrap (s1+1))))
else
 some (.inr (.inr ())))) 0) fun x4 =>
(match x4 with
| .inl d7 =>
 some d7
| .inr d8 =>
 some (-1))
theorem Jd {a0:(List Qv4)} {r:Int} (h:Qs a0=some r):PureC Tryz.prog 122 [.d (slD Qv4.enc a0),.fn 137 []] (dI r) []:=by
  refine Qt tOk (fn:=Tryz.f122) (c:=Qj Tryz.f122) rfl rfl ?_;unfold Qs at h;(conv=>whnf);refine Qe tOk ?_;(conv=>whnf);obtain ⟨x4,hx4,h⟩:=Qa h;refine Zh tOk hx4 (fun s1=>⟨0,19,[(0,.d (slD Qv4.enc a0)),(1,.fn 137 []),(7,dI ((a0.length:Nat):Int)),(8,dI s1)],[],[],[]⟩) ?_ ?_
  · exact leX []
  · clear hx4;intro s1 y2 g3 hy2;(conv=>whnf);refine Qe tOk ?_;(conv=>whnf);refine Qu g3 (fun _ g3=>?_) (fun _ g3=>?_)
    · (conv=>whnf);refine Qe tOk ?_;(conv=>whnf);refine gdI g3 (fun g3=>?_);(conv=>whnf);obtain ⟨x6,hx6,g3⟩:=Qa g3;refine cC 0 (QbI hx6) ?_;clear hx6;(conv=>whnf);refine Qu g3 (fun _ g3=>?_) (fun _ g3=>?_)
      · (conv=>whnf);obtain rfl:=sj_ g3;obtain rfl:=hy2 _ rfl;obtain rfl:=sj_ h;exact lfP []
      · (conv=>whnf);obtain rfl:=sj_ g3;exact ⟨_,rfl,leX []⟩
    · (conv=>whnf);obtain rfl:=sj_ g3;obtain rfl:=hy2 _ rfl;obtain rfl:=sj_ h;exact lfP []
noncomputable def Qp (a0:(List Qv4)):Option ((List Qv4)) :=
 bd (Qs a0) fun x1 =>
(if (x1 == (-1))=true then
 some a0
else
 bd (lp (σ:=List Qv4 × Int × Int) (β:=(Nat × Int × (List Qv4))) (fun s2 =>
(if (decide (s2.2.2<((s2.1.length:Nat):Int)))=true then
 gd ((0:Int)≤s2.2.2∧s2.2.2<((s2.1.length:Nat):Int)) <|
 bd (Q7 (⟨((s2.1.getD s2.2.2.toNat default).Entry),(s2.1.getD s2.2.2.toNat default).Stale⟩:Qv4)) fun x7 =>
(if (!x7)=true then
 gd ((0:Int)≤s2.2.1∧s2.2.1<((s2.1.length:Nat):Int)) <|
 bd (some (s2.1.set s2.2.1.toNat (⟨((s2.1.getD s2.2.2.toNat default).Entry),(s2.1.getD s2.2.2.toNat default).Stale⟩:Qv4))) fun x9 =>
 some (.inl (x9,IntKind.i64.wrap (s2.2.1+1),IntKind.i64.wrap (s2.2.2+1)))
else
 some (.inl (s2.1,s2.2.1,IntKind.i64.wrap (s2.2.2+1))))
else
 some (.inr (s2.1.length,s2.2.1,s2.1)))) (a0,x1,IntKind.i64.wrap (x1+1))) fun x5 =>
 gd ((0:Int)≤x5.2.1∧x5.2.1≤((x5.1:Nat):Int)∧((x5.1:Nat):Int)≤((x5.1:Nat):Int)) <|
 gd ((0:Int)≤(0:Int)∧(0:Int)≤x5.2.1∧x5.2.1≤((x5.1:Nat):Int)) <|
 some ((Qqz x5.2.2 x5.2.1.toNat (Qc8 ((x5.1:Nat):Int) x5.2.1)).take x5.2.1.toNat))
theorem ZY {a0:(List Qv4)} {r:(List Qv4)} (h:Qp a0=some r):EffC Tryz.prog 108 [.osl 9000 0 a0.length,.fn 137 []] [(9000,.arr 96 5 a0.length (rows Qv4.enc a0))] (.osl 5001 0 r.length) [(5001,.arr 96 5 r.length (rows Qv4.enc r))]:=by
  refine QQ tOk (fn:=Tryz.f108) (c:=Qj Tryz.f108) rfl rfl ?_;unfold Qp at h;(conv=>whnf);obtain ⟨x1,hx1,h⟩:=Qa h;refine cC 0 (Jd hx1) ?_;clear hx1;(conv=>whnf);refine Qe tOk ?_;(conv=>whnf);refine Qu h (fun _ h=>?_) (fun _ h=>?_)
  · (conv=>whnf);obtain rfl:=sj_ h;exact lfE [.s [(5001,9000),(9000,5001)]]
  · (conv=>whnf);refine Qe tOk ?_;(conv=>whnf);obtain ⟨x5,hx5,h⟩:=Qa h;refine Zh tOk hx5 (fun s2=>⟨0,42,[(0,.osl 9000 0 s2.1.length),(1,.fn 137 []),(5,dI s2.2.1),(6,dI s2.2.2)],[],[(9000,.arr 96 5 s2.1.length (rows Qv4.enc s2.1))],[⟨[],[]⟩]⟩) ?_ ?_
    · exact leX []
    · clear hx5;intro s2 y3 g4 hy3;(conv=>whnf);refine Qe tOk ?_;(conv=>whnf);refine Qu g4 (fun _ g4=>?_) (fun _ g4=>?_)
      · (conv=>whnf);refine Qe tOk ?_;(conv=>whnf);refine gdI g4 (fun g4=>?_);(conv=>whnf);obtain ⟨x7,hx7,g4⟩:=Qa g4;refine cC 0 (QbI hx7) ?_;clear hx7;(conv=>whnf);refine Qu g4 (fun _ g4=>?_) (fun _ g4=>?_)
        · (conv=>whnf);refine gdI g4 (fun g4=>?_);(conv=>whnf);obtain ⟨x9,hx9,hlx9,g4⟩:=QgC g4;refine Qr8 (enc:=Qv4.enc) hx9 ?_;(conv=>whnf);obtain rfl:=sj_ g4;exact ⟨_,rfl,leX []⟩
        · (conv=>whnf);obtain rfl:=sj_ g4;exact ⟨_,rfl,leX []⟩
      · (conv=>whnf);obtain rfl:=sj_ g4;obtain rfl:=hy3 _ rfl;dsimp only at h;obtain ⟨g11,h⟩:=Qg h;refine And.intro g11 ?_;(conv=>whnf);refine ⟨rows Qv4.enc (Qqz (s2.1.length,s2.2.1,s2.1).2.2 (s2.1.length,s2.2.1,s2.1).2.1.toNat (Qc8 (((s2.1.length,s2.2.1,s2.1).1:Nat):Int) (s2.1.length,s2.2.1,s2.1).2.1)),Qox Qjk rfl,?_⟩;(conv=>whnf);obtain ⟨g12,h⟩:=Qg h;refine And.intro g12 ?_;(conv=>whnf);obtain rfl:=sj_ h;exact lfE [.c 4,.s [(5001,9000),(9000,5001)]]
noncomputable def Q2 (a0:Qv5):Option (Qv5) :=
 bd (Qp a0.Heard) fun x1 =>
 some ({ a0 with Heard:=x1 })
theorem Qcg {a0:Qv5} {r:Qv5} (h:Q2 a0=some r):EffC Tryz.prog 97 [.ref 9000 0 0] [(9000,.box 36 (heC a0 (.osl 9001 0 a0.Heard.length))),(9001,.arr 96 5 a0.Heard.length (rows Qv4.enc a0.Heard))] (.tup []) [(9000,.box 36 (heC a0 (.osl 5001 0 r.Heard.length))),(5001,.arr 96 5 r.Heard.length (rows Qv4.enc r.Heard))]:=by
  refine QQ tOk (fn:=Tryz.f97) (c:=Qj Tryz.f97) rfl rfl ?_;unfold Q2 at h;(conv=>whnf);obtain ⟨x1,hx1,h⟩:=Qa h;refine cE [(9000,9001)] 1000 (ZY hx1) ?_;(conv=>whnf);obtain rfl:=sj_ h;exact lfE [.s [(5001,6001),(6001,5001)]]
noncomputable def ZZ (a0:Qv5) (a1:Qv3):Option (Bool × Qv5) :=
(if (a1.Kind == 1)=true then
 bd (JT a0 a1.Entry) fun x1 =>
 some (x1.1,{ a0 with Heard:=x1.2.Heard })
else
(if (a1.Kind == 2)=true then
 bd (Qr a1.Entry) fun x2 =>
 bd (Zi a0 x2) fun x3 =>
(if x3.2=true then
 bd (QO a0.Heard x3.1 (IntKind.i64.wrap (x3.1+1))) fun x4 =>
 some (true,{ a0 with Heard:=x4 })
else
 some (true,a0))
else
(if (a1.Kind == 3)=true then
 bd (Q2 a0) fun x5 =>
 some (true,{ a0 with Full:=true,Heard:=x5.Heard })
else
 some (true,a0))))
theorem Qgs {a0:Qv5} {a1:Qv3} {r:Bool × Qv5} (h:ZZ a0 a1=some r):EffC Tryz.prog 132 [.ref 9000 0 0,.agg (dI a1.Kind :: hnC a1.Entry)] [(9000,.box 36 (heC a0 (.osl 9001 0 a0.Heard.length))),(9001,.arr 96 5 a0.Heard.length (rows Qv4.enc a0.Heard))] (dB r.1) [(9000,.box 36 (dI a0.Name :: dI a0.Peer :: .d (slD Qv1.enc a0.Keys) :: dI a0.Boot :: .d (slD Qv2.enc a0.Want) :: dI a0.Turn :: dI a0.PeerBoot :: dI a0.PeerTurn :: dB a0.Up :: dI a0.Left :: dI a0.Num :: dI a0.Under.Kind :: hnC a0.Under.Entry ++ [.d (slD Qv2.enc a0.Told),dB a0.All,dI a0.Got,dB r.2.Full,.osl 5001 0 r.2.Heard.length,dI a0.Keep])),(5001,.arr 96 5 r.2.Heard.length (rows Qv4.enc r.2.Heard))]:=by
  refine QQ tOk (fn:=Tryz.f132) (c:=Qj Tryz.f132) rfl rfl ?_;unfold ZZ at h;(conv=>whnf);refine Qe tOk ?_;(conv=>whnf);refine Qu h (fun _ h=>?_) (fun _ h=>?_)
  · (conv=>whnf);obtain ⟨x1,hx1,h⟩:=Qa h;refine cE [(9000,9000),(9001,9001)] 1000 (QfE hx1) ?_;(conv=>whnf);obtain rfl:=sj_ h;exact lfE [.s [(5001,6001),(6001,5001)]]
  · (conv=>whnf);refine Qu h (fun _ h=>?_) (fun _ h=>?_)
    · (conv=>whnf);obtain ⟨x2,hx2,h⟩:=Qa h;refine cC 0 (Qy hx2) ?_;clear hx2;(conv=>whnf);obtain ⟨x3,hx3,h⟩:=Qa h;refine cC 0 (QaK hx3) ?_;clear hx3;(conv=>whnf);refine Qu h (fun _ h=>?_) (fun _ h=>?_)
      · (conv=>whnf);obtain ⟨x4,hx4,h⟩:=Qa h;refine cE [(9000,9001)] 1000 (Qab hx4) ?_;(conv=>whnf);obtain rfl:=sj_ h;exact lfE [.s [(5001,6001),(6001,5001)]]
      · (conv=>whnf);obtain rfl:=sj_ h;exact lfE [.s [(5001,9001),(9001,5001)]]
    · (conv=>whnf);refine Qu h (fun _ h=>?_) (fun _ h=>?_)
      · (conv=>whnf);obtain ⟨x5,hx5,h⟩:=Qa h;refine cE [(9000,9000),(9001,9001)] 1000 (Qcg hx5) ?_;(conv=>whnf);obtain rfl:=sj_ h;exact lfE [.s [(5001,6001),(6001,5001)]]
      · (conv=>whnf);obtain rfl:=sj_ h;exact lfE [.s [(5001,9001),(9001,5001)]]
noncomputable def Ze (a0:Qv5):Option (Qv5) :=
 bd (α:=Bool) ((if (a0.Under.Kind == 3)=true then
 some true
else
 some a0.All)) fun x1 =>
 bd (Qce a0.Told a0.Under) fun x4 =>
 some ({ a0 with Under:=(⟨0,(⟨0,0,0,0⟩:Qv2)⟩:Qv3),Told:=x4,All:=x1 })
theorem Qdr {a0:Qv5} {r:Qv5} (h:Ze a0=some r):EffC Tryz.prog 131 [.ref 9000 0 0] [(9000,.box 36 (heC a0 (.osl 9001 0 a0.Heard.length))),(9001,.arr 96 5 a0.Heard.length (rows Qv4.enc a0.Heard))] (.tup []) [(9000,.box 36 (dI a0.Name :: dI a0.Peer :: .d (slD Qv1.enc a0.Keys) :: dI a0.Boot :: .d (slD Qv2.enc a0.Want) :: dI a0.Turn :: dI a0.PeerBoot :: dI a0.PeerTurn :: dB a0.Up :: dI a0.Left :: dI a0.Num :: dI r.Under.Kind :: hnC r.Under.Entry ++ [.d (slD Qv2.enc r.Told),dB r.All,dI a0.Got,dB a0.Full,.osl 5001 0 r.Heard.length,dI a0.Keep])),(5001,.arr 96 5 r.Heard.length (rows Qv4.enc r.Heard))]:=by
  refine QQ tOk (fn:=Tryz.f131) (c:=Qj Tryz.f131) rfl rfl ?_;unfold Ze at h;(conv=>whnf);obtain ⟨x1,hx1,h⟩:=Qa h;refine Ji tOk (fun s2=>⟨0,27,[(0,.ref 9000 0 0)],[],[(9000,.box 36 (dI a0.Name :: dI a0.Peer :: .d (slD Qv1.enc a0.Keys) :: dI a0.Boot :: .d (slD Qv2.enc a0.Want) :: dI a0.Turn :: dI a0.PeerBoot :: dI a0.PeerTurn :: dB a0.Up :: dI a0.Left :: dI a0.Num :: dI a0.Under.Kind :: hnC a0.Under.Entry ++ [.d (slD Qv2.enc a0.Told),dB s2,dI a0.Got,dB a0.Full,.osl 9001 0 a0.Heard.length,dI a0.Keep])),(9001,.arr 96 5 a0.Heard.length (rows Qv4.enc a0.Heard))],[⟨[(0,.ref 9000 0 0)],[]⟩]⟩) (fun s2=>x1=s2) ?_ ?_
  · (conv=>whnf);refine Qu hx1 (fun _ hx1=>?_) (fun _ hx1=>?_)
    · (conv=>whnf);obtain rfl:=sj_ hx1;exact ⟨_,rfl,leX []⟩
    · (conv=>whnf);obtain rfl:=sj_ hx1;exact ⟨_,rfl,leX []⟩
  · rintro _ rfl;(conv=>whnf);obtain ⟨x4,hx4,h⟩:=Qa h;refine QP tOk [.u 9 1000 (.osl 5001 0 x4.length) [⟨5001,31,4,x4.length,rows Qv2.enc x4⟩]] 12 [] [0,0,2,6,14,0,32,96,224,510,1023,2047] [4095] ?_;(conv=>whnf);refine And.intro (QM (Qkw hx4) (by kernel_rfl)) ?_;(conv=>whnf);refine And.intro (by kernel_rfl) ?_;(conv=>whnf);obtain rfl:=sj_ h;exact lfE [.f [6001],.s [(5001,9001),(9001,5001)]]
noncomputable def Z0 (a0:Qv5) (a1:Qv7):Option (Qv5) :=
 bd (JS a0 a1) fun x1 =>
(if (!x1)=true then
 some a0
else
 bd (α:=List Qv4 × Int × Int × Int × Int × Int × Int × List Qv2 × Bool × Int × Bool × Int × Int × Bool) ((if (decide (a1.Boot > a0.PeerBoot))=true then
 bd (Zy a0) fun x5 =>
 some (x5.Heard,x5.Num,x5.Under.Kind,x5.Under.Entry.Addr,x5.Under.Entry.Len,x5.Under.Entry.Cost,x5.Under.Entry.Label,x5.Told,x5.All,x5.Got,x5.Full,x5.Keep,a1.Boot,x5.Up)
else
 some (a0.Heard,a0.Num,a0.Under.Kind,a0.Under.Entry.Addr,a0.Under.Entry.Len,a0.Under.Entry.Cost,a0.Under.Entry.Label,a0.Told,a0.All,a0.Got,a0.Full,a0.Keep,a0.PeerBoot,a0.Up))) fun x2 =>
(if (!(a1.Yours == a0.Boot))=true then
 some ({ a0 with PeerBoot:=x2.2.2.2.2.2.2.2.2.2.2.2.2.1,PeerTurn:=a1.Turn,Up:=(a1.Yours == a0.Boot),Left:=4,Num:=x2.2.1,Under:=(⟨x2.2.2.1,(⟨x2.2.2.2.1,x2.2.2.2.2.1,x2.2.2.2.2.2.1,x2.2.2.2.2.2.2.1⟩:Qv2)⟩:Qv3),Told:=x2.2.2.2.2.2.2.2.1,All:=x2.2.2.2.2.2.2.2.2.1,Got:=x2.2.2.2.2.2.2.2.2.2.1,Full:=x2.2.2.2.2.2.2.2.2.2.2.1,Heard:=x2.1,Keep:=x2.2.2.2.2.2.2.2.2.2.2.2.1 })
else
 bd (α:=List Qv4 × Int × Int × Int × Int × Int × List Qv2 × Bool) ((if ((x2.2.2.1 != 0) && (a1.Heard == x2.2.1))=true then
 bd (Ze ({ a0 with PeerBoot:=x2.2.2.2.2.2.2.2.2.2.2.2.2.1,PeerTurn:=a1.Turn,Up:=(a1.Yours == a0.Boot),Left:=4,Num:=x2.2.1,Under:=(⟨x2.2.2.1,(⟨x2.2.2.2.1,x2.2.2.2.2.1,x2.2.2.2.2.2.1,x2.2.2.2.2.2.2.1⟩:Qv2)⟩:Qv3),Told:=x2.2.2.2.2.2.2.2.1,All:=x2.2.2.2.2.2.2.2.2.1,Got:=x2.2.2.2.2.2.2.2.2.2.1,Full:=x2.2.2.2.2.2.2.2.2.2.2.1,Heard:=x2.1,Keep:=x2.2.2.2.2.2.2.2.2.2.2.2.1 })) fun x9 =>
 some (x9.Heard,x9.Under.Kind,x9.Under.Entry.Addr,x9.Under.Entry.Len,x9.Under.Entry.Cost,x9.Under.Entry.Label,x9.Told,x9.All)
else
 some (x2.1,x2.2.2.1,x2.2.2.2.1,x2.2.2.2.2.1,x2.2.2.2.2.2.1,x2.2.2.2.2.2.2.1,x2.2.2.2.2.2.2.2.1,x2.2.2.2.2.2.2.2.2.1))) fun x6 =>
 bd (α:=List Qv4 × Int × Bool) ((if ((a1.Change.Kind != 0) && (a1.Num == (IntKind.i64.wrap (x2.2.2.2.2.2.2.2.2.2.1+1))))=true then
 bd (ZZ ({ a0 with PeerBoot:=x2.2.2.2.2.2.2.2.2.2.2.2.2.1,PeerTurn:=a1.Turn,Up:=(a1.Yours == a0.Boot),Left:=4,Num:=x2.2.1,Under:=(⟨x6.2.1,(⟨x6.2.2.1,x6.2.2.2.1,x6.2.2.2.2.1,x6.2.2.2.2.2.1⟩:Qv2)⟩:Qv3),Told:=x6.2.2.2.2.2.2.1,All:=x6.2.2.2.2.2.2.2,Got:=x2.2.2.2.2.2.2.2.2.2.1,Full:=x2.2.2.2.2.2.2.2.2.2.2.1,Heard:=x6.1,Keep:=x2.2.2.2.2.2.2.2.2.2.2.2.1 }) a1.Change) fun x14 =>
(if (((a1.Change.Kind != 0) && (a1.Num == (IntKind.i64.wrap (x2.2.2.2.2.2.2.2.2.2.1+1)))) && x14.1)=true then
 some (x14.2.Heard,a1.Num,x14.2.Full)
else
 some (x14.2.Heard,x2.2.2.2.2.2.2.2.2.2.1,x14.2.Full))
else
(if (((a1.Change.Kind != 0) && (a1.Num == (IntKind.i64.wrap (x2.2.2.2.2.2.2.2.2.2.1+1)))) && false)=true then
 some (x6.1,a1.Num,x2.2.2.2.2.2.2.2.2.2.2.1)
else
 some (x6.1,x2.2.2.2.2.2.2.2.2.2.1,x2.2.2.2.2.2.2.2.2.2.2.1)))) fun x10 =>
 bd (JQ x10.1) fun x15 =>
(if (!x15)=true then
 some ({ a0 with PeerBoot:=x2.2.2.2.2.2.2.2.2.2.2.2.2.1,PeerTurn:=a1.Turn,Up:=(a1.Yours == a0.Boot),Left:=4,Num:=x2.2.1,Under:=(⟨x6.2.1,(⟨x6.2.2.1,x6.2.2.2.1,x6.2.2.2.2.1,x6.2.2.2.2.2.1⟩:Qv2)⟩:Qv3),Told:=x6.2.2.2.2.2.2.1,All:=x6.2.2.2.2.2.2.2,Got:=x10.2.1,Full:=x10.2.2,Heard:=x10.1,Keep:=0 })
else
 some ({ a0 with PeerBoot:=x2.2.2.2.2.2.2.2.2.2.2.2.2.1,PeerTurn:=a1.Turn,Up:=(a1.Yours == a0.Boot),Left:=4,Num:=x2.2.1,Under:=(⟨x6.2.1,(⟨x6.2.2.1,x6.2.2.2.1,x6.2.2.2.2.1,x6.2.2.2.2.2.1⟩:Qv2)⟩:Qv3),Told:=x6.2.2.2.2.2.2.1,All:=x6.2.2.2.2.2.2.2,Got:=x10.2.1,Full:=x10.2.2,Heard:=x10.1,Keep:=x2.2.2.2.2.2.2.2.2.2.2.2.1 }))))
theorem Qdx {a0:Qv5} {a1:Qv7} {r:Qv5} (h:Z0 a0 a1=some r):EffC Tryz.prog 87 [.ref 9000 0 0,.agg (hwC a1)] [(9000,.box 36 (heC a0 (.osl 9001 0 a0.Heard.length))),(9001,.arr 96 5 a0.Heard.length (rows Qv4.enc a0.Heard))] (.tup []) [(9000,.box 36 (dI a0.Name :: dI a0.Peer :: .d (slD Qv1.enc a0.Keys) :: dI a0.Boot :: .d (slD Qv2.enc a0.Want) :: dI a0.Turn :: dI r.PeerBoot :: dI r.PeerTurn :: dB r.Up :: dI r.Left :: dI r.Num :: dI r.Under.Kind :: hnC r.Under.Entry ++ [.d (slD Qv2.enc r.Told),dB r.All,dI r.Got,dB r.Full,.osl 5001 0 r.Heard.length,dI r.Keep])),(5001,.arr 96 5 r.Heard.length (rows Qv4.enc r.Heard))]:=by
  refine QQ tOk (fn:=Tryz.f87) (c:=Qj Tryz.f87) rfl rfl ?_;unfold Z0 at h;(conv=>whnf);refine Qe tOk ?_;(conv=>whnf);obtain ⟨x1,hx1,h⟩:=Qa h;refine cC 0 (QfD hx1) ?_;clear hx1;(conv=>whnf);refine Qu h (fun _ h=>?_) (fun _ h=>?_)
  · (conv=>whnf);obtain rfl:=sj_ h;exact lfE [.s [(5001,9001),(9001,5001)]]
  · (conv=>whnf);obtain ⟨x2,hx2,h⟩:=Qa h;refine Ji tOk (fun s3=>⟨0,96,[(0,.ref 9000 0 0),(3,.ref 3 0 0)],[],[(6001,.arr 96 5 s3.1.length (rows Qv4.enc s3.1)),(3,.box 42 (hwC a1)),(9000,.box 36 [dI a0.Name,dI a0.Peer,.d (slD Qv1.enc a0.Keys),dI a0.Boot,.d (slD Qv2.enc a0.Want),dI a0.Turn,dI s3.2.2.2.2.2.2.2.2.2.2.2.2.1,dI a0.PeerTurn,dB s3.2.2.2.2.2.2.2.2.2.2.2.2.2,dI a0.Left,dI s3.2.1,dI s3.2.2.1,dI s3.2.2.2.1,dI s3.2.2.2.2.1,dI s3.2.2.2.2.2.1,dI s3.2.2.2.2.2.2.1,.d (slD Qv2.enc s3.2.2.2.2.2.2.2.1),dB s3.2.2.2.2.2.2.2.2.1,dI s3.2.2.2.2.2.2.2.2.2.1,dB s3.2.2.2.2.2.2.2.2.2.2.1,.osl 6001 0 s3.1.length,dI s3.2.2.2.2.2.2.2.2.2.2.2.1])],[⟨[(0,.ref 9000 0 0)],[]⟩]⟩) (fun s3=>x2=s3) ?_ ?_
    · (conv=>whnf);refine QP tOk [] 7 [] [0,1,0,4,12,28,63] [] ?_;(conv=>whnf);refine And.intro (by kernel_rfl) ?_;(conv=>whnf);refine Qu hx2 (fun _ hx2=>?_) (fun _ hx2=>?_)
      · (conv=>whnf);obtain ⟨x5,hx5,hx2⟩:=Qa hx2;refine cE [(9000,9000),(9001,9001)] 1000 (Qcf hx5) ?_;(conv=>whnf);obtain rfl:=sj_ hx2;exact ⟨_,rfl,leX []⟩
      · (conv=>whnf);obtain rfl:=sj_ hx2;exact ⟨_,rfl,leX [.s [(6001,9001),(9001,6001)]]⟩
    · rintro _ rfl;(conv=>whnf);refine JA tOk [.l 10 [(9000,.box 36 [dI a0.Name,dI a0.Peer,.d (slD Qv1.enc a0.Keys),dI a0.Boot,.d (slD Qv2.enc a0.Want),dI a0.Turn,dI x2.2.2.2.2.2.2.2.2.2.2.2.2.1,dI a0.PeerTurn,dB x2.2.2.2.2.2.2.2.2.2.2.2.2.2,dI a0.Left,dI x2.2.1,dI x2.2.2.1,dI x2.2.2.2.1,dI x2.2.2.2.2.1,dI x2.2.2.2.2.2.1,dI x2.2.2.2.2.2.2.1,.d (slD Qv2.enc x2.2.2.2.2.2.2.2.1),dB x2.2.2.2.2.2.2.2.2.1,dI x2.2.2.2.2.2.2.2.2.2.1,dB x2.2.2.2.2.2.2.2.2.2.2.1,.osl 6001 0 x2.1.length,dI x2.2.2.2.2.2.2.2.2.2.2.2.1])] (dI a0.Boot),.a 14 [(9000,.box 36 [dI a0.Name,dI a0.Peer,.d (slD Qv1.enc a0.Keys),dI a0.Boot,.d (slD Qv2.enc a0.Want),dI a0.Turn,dI x2.2.2.2.2.2.2.2.2.2.2.2.2.1,dI a0.PeerTurn,dB x2.2.2.2.2.2.2.2.2.2.2.2.2.2,dI a0.Left,dI x2.2.1,dI x2.2.2.1,dI x2.2.2.2.1,dI x2.2.2.2.2.1,dI x2.2.2.2.2.2.1,dI x2.2.2.2.2.2.2.1,.d (slD Qv2.enc x2.2.2.2.2.2.2.2.1),dB x2.2.2.2.2.2.2.2.2.1,dI x2.2.2.2.2.2.2.2.2.2.1,dB x2.2.2.2.2.2.2.2.2.2.2.1,.osl 6001 0 x2.1.length,dI x2.2.2.2.2.2.2.2.2.2.2.2.1])] (.any) [(9000,.box 36 [dI a0.Name,dI a0.Peer,.d (slD Qv1.enc a0.Keys),dI a0.Boot,.d (slD Qv2.enc a0.Want),dI a0.Turn,dI x2.2.2.2.2.2.2.2.2.2.2.2.2.1,dI a1.Turn,dB x2.2.2.2.2.2.2.2.2.2.2.2.2.2,dI a0.Left,dI x2.2.1,dI x2.2.2.1,dI x2.2.2.2.1,dI x2.2.2.2.2.1,dI x2.2.2.2.2.2.1,dI x2.2.2.2.2.2.2.1,.d (slD Qv2.enc x2.2.2.2.2.2.2.2.1),dB x2.2.2.2.2.2.2.2.2.1,dI x2.2.2.2.2.2.2.2.2.2.1,dB x2.2.2.2.2.2.2.2.2.2.2.1,.osl 6001 0 x2.1.length,dI x2.2.2.2.2.2.2.2.2.2.2.2.1])],.a 17 [(9000,.box 36 [dI a0.Name,dI a0.Peer,.d (slD Qv1.enc a0.Keys),dI a0.Boot,.d (slD Qv2.enc a0.Want),dI a0.Turn,dI x2.2.2.2.2.2.2.2.2.2.2.2.2.1,dI a1.Turn,dB x2.2.2.2.2.2.2.2.2.2.2.2.2.2,dI a0.Left,dI x2.2.1,dI x2.2.2.1,dI x2.2.2.2.1,dI x2.2.2.2.2.1,dI x2.2.2.2.2.2.1,dI x2.2.2.2.2.2.2.1,.d (slD Qv2.enc x2.2.2.2.2.2.2.2.1),dB x2.2.2.2.2.2.2.2.2.1,dI x2.2.2.2.2.2.2.2.2.2.1,dB x2.2.2.2.2.2.2.2.2.2.2.1,.osl 6001 0 x2.1.length,dI x2.2.2.2.2.2.2.2.2.2.2.2.1])] (.any) [(9000,.box 36 [dI a0.Name,dI a0.Peer,.d (slD Qv1.enc a0.Keys),dI a0.Boot,.d (slD Qv2.enc a0.Want),dI a0.Turn,dI x2.2.2.2.2.2.2.2.2.2.2.2.2.1,dI a1.Turn,dB x2.2.2.2.2.2.2.2.2.2.2.2.2.2,dI 4,dI x2.2.1,dI x2.2.2.1,dI x2.2.2.2.1,dI x2.2.2.2.2.1,dI x2.2.2.2.2.2.1,dI x2.2.2.2.2.2.2.1,.d (slD Qv2.enc x2.2.2.2.2.2.2.2.1),dB x2.2.2.2.2.2.2.2.2.1,dI x2.2.2.2.2.2.2.2.2.2.1,dB x2.2.2.2.2.2.2.2.2.2.2.1,.osl 6001 0 x2.1.length,dI x2.2.2.2.2.2.2.2.2.2.2.2.1])],.a 20 [(9000,.box 36 [dI a0.Name,dI a0.Peer,.d (slD Qv1.enc a0.Keys),dI a0.Boot,.d (slD Qv2.enc a0.Want),dI a0.Turn,dI x2.2.2.2.2.2.2.2.2.2.2.2.2.1,dI a1.Turn,dB x2.2.2.2.2.2.2.2.2.2.2.2.2.2,dI 4,dI x2.2.1,dI x2.2.2.1,dI x2.2.2.2.1,dI x2.2.2.2.2.1,dI x2.2.2.2.2.2.1,dI x2.2.2.2.2.2.2.1,.d (slD Qv2.enc x2.2.2.2.2.2.2.2.1),dB x2.2.2.2.2.2.2.2.2.1,dI x2.2.2.2.2.2.2.2.2.2.1,dB x2.2.2.2.2.2.2.2.2.2.2.1,.osl 6001 0 x2.1.length,dI x2.2.2.2.2.2.2.2.2.2.2.2.1])] (.any) [(9000,.box 36 [dI a0.Name,dI a0.Peer,.d (slD Qv1.enc a0.Keys),dI a0.Boot,.d (slD Qv2.enc a0.Want),dI a0.Turn,dI x2.2.2.2.2.2.2.2.2.2.2.2.2.1,dI a1.Turn,dB (a1.Yours == a0.Boot),dI 4,dI x2.2.1,dI x2.2.2.1,dI x2.2.2.2.1,dI x2.2.2.2.2.1,dI x2.2.2.2.2.2.1,dI x2.2.2.2.2.2.2.1,.d (slD Qv2.enc x2.2.2.2.2.2.2.2.1),dB x2.2.2.2.2.2.2.2.2.1,dI x2.2.2.2.2.2.2.2.2.2.1,dB x2.2.2.2.2.2.2.2.2.2.2.1,.osl 6001 0 x2.1.length,dI x2.2.2.2.2.2.2.2.2.2.2.2.1])]] 21 [] [0,0,0,0,8,0,32,0,128,384,896,2016,1945,6041,14233,30619,63387,128923,262143,524287,1048575] [] [9000] ?_;(conv=>whnf);refine And.intro (by (conv=>whnf); exact ⟨rfl,rfl⟩) ?_;(conv=>whnf);refine And.intro (by (conv=>whnf); exact ⟨rfl,rfl⟩) ?_;(conv=>whnf);refine And.intro (by (conv=>whnf); exact ⟨rfl,rfl⟩) ?_;(conv=>whnf);refine And.intro (by (conv=>whnf); exact ⟨rfl,rfl⟩) ?_;(conv=>whnf);refine And.intro (by kernel_rfl) ?_;(conv=>whnf);refine Qe tOk ?_;(conv=>whnf);refine Qu h (fun _ h=>?_) (fun _ h=>?_)
      · (conv=>whnf);obtain rfl:=sj_ h;exact lfE [.s [(5001,6001),(6001,5001)]]
      · (conv=>whnf);obtain ⟨x6,hx6,h⟩:=Qa h;refine Ji tOk (fun s7=>⟨0,96,[(0,.ref 9000 0 0),(3,.ref 3 0 0)],[],[(7001,.arr 96 5 s7.1.length (rows Qv4.enc s7.1)),(3,.box 42 (hwC a1)),(9000,.box 36 [dI a0.Name,dI a0.Peer,.d (slD Qv1.enc a0.Keys),dI a0.Boot,.d (slD Qv2.enc a0.Want),dI a0.Turn,dI x2.2.2.2.2.2.2.2.2.2.2.2.2.1,dI a1.Turn,dB (a1.Yours == a0.Boot),dI 4,dI x2.2.1,dI s7.2.1,dI s7.2.2.1,dI s7.2.2.2.1,dI s7.2.2.2.2.1,dI s7.2.2.2.2.2.1,.d (slD Qv2.enc s7.2.2.2.2.2.2.1),dB s7.2.2.2.2.2.2.2,dI x2.2.2.2.2.2.2.2.2.2.1,dB x2.2.2.2.2.2.2.2.2.2.2.1,.osl 7001 0 s7.1.length,dI x2.2.2.2.2.2.2.2.2.2.2.2.1])],[⟨[(0,.ref 9000 0 0)],[]⟩]⟩) (fun s7=>x6=s7) ?_ ?_
        · (conv=>whnf);refine QP tOk [] 15 [] [0,1,3,7,15,31,63,127,255,127,639,1663,3711,8191,16383] [] ?_;(conv=>whnf);refine And.intro (by kernel_rfl) ?_;(conv=>whnf);refine Qu hx6 (fun _ hx6=>?_) (fun _ hx6=>?_)
          · (conv=>whnf);obtain ⟨x9,hx9,hx6⟩:=Qa hx6;refine cE [(9000,9000),(9001,6001)] 2000 (Qdr hx9) ?_;(conv=>whnf);obtain rfl:=sj_ hx6;exact ⟨_,rfl,leX []⟩
          · (conv=>whnf);obtain rfl:=sj_ hx6;exact ⟨_,rfl,leX [.s [(6001,7001),(7001,6001)]]⟩
        · rintro _ rfl;(conv=>whnf);obtain ⟨x10,hx10,h⟩:=Qa h;refine Ji tOk (fun s11=>⟨0,96,[(0,.ref 9000 0 0)],[],[(6001,.arr 96 5 s11.1.length (rows Qv4.enc s11.1)),(9000,.box 36 [dI a0.Name,dI a0.Peer,.d (slD Qv1.enc a0.Keys),dI a0.Boot,.d (slD Qv2.enc a0.Want),dI a0.Turn,dI x2.2.2.2.2.2.2.2.2.2.2.2.2.1,dI a1.Turn,dB (a1.Yours == a0.Boot),dI 4,dI x2.2.1,dI x6.2.1,dI x6.2.2.1,dI x6.2.2.2.1,dI x6.2.2.2.2.1,dI x6.2.2.2.2.2.1,.d (slD Qv2.enc x6.2.2.2.2.2.2.1),dB x6.2.2.2.2.2.2.2,dI s11.2.1,dB s11.2.2,.osl 6001 0 s11.1.length,dI x2.2.2.2.2.2.2.2.2.2.2.2.1])],[⟨[(0,.ref 9000 0 0)],[]⟩]⟩) (fun s11=>x10=s11) ?_ ?_
          · (conv=>whnf);refine QP tOk [] 18 [] [0,1,3,7,15,31,63,31,159,415,927,1951,4095,8191,16383,32767,32767,98303] [262143,524287] ?_;(conv=>whnf);refine And.intro (by kernel_rfl) ?_;(conv=>whnf);refine spI hx10 (fun hb13 hx10=>?_) (fun hb13 hx10=>?_)
            · obtain ⟨x14,hx14,hx10⟩:=Qa hx10;refine QlE [(9000,9000),(9001,7001)] 1000 (Qgs hx14) (by (conv=>whnf); exact fun q=>absurd (q.symm.trans hb13) (by decide)) ?_;(conv=>whnf);refine Qu hx10 (fun _ hx10=>?_) (fun _ hx10=>?_)
              · (conv=>whnf);obtain rfl:=sj_ hx10;exact ⟨_,rfl,leX []⟩
              · (conv=>whnf);obtain rfl:=sj_ hx10;exact ⟨_,rfl,leX []⟩
            · refine QiY (dB false) ?_ (by (conv=>whnf); exact fun q=>absurd (hb13.symm.trans q) (by decide));(conv=>whnf);refine Qu hx10 (fun _ hx10=>?_) (fun _ hx10=>?_)
              · (conv=>whnf);obtain rfl:=sj_ hx10;exact ⟨_,rfl,leX [.s [(6001,7001),(7001,6001)]]⟩
              · (conv=>whnf);obtain rfl:=sj_ hx10;exact ⟨_,rfl,leX [.s [(6001,7001),(7001,6001)]]⟩
          · rintro _ rfl;(conv=>whnf);obtain ⟨x15,hx15,h⟩:=Qa h;refine cC 0 (QfB hx15) ?_;clear hx15;(conv=>whnf);refine Qu h (fun _ h=>?_) (fun _ h=>?_)
            · (conv=>whnf);obtain rfl:=sj_ h;exact lfE [.s [(5001,6001),(6001,5001)]]
            · (conv=>whnf);obtain rfl:=sj_ h;exact lfE [.s [(5001,6001),(6001,5001)]]
noncomputable def Q9 (a0:Qv5):Option (Qv5) :=
 bd (Zy ({ a0 with Boot:=(if 1000<(IntKind.i64.wrap (a0.Boot+1)) then 1000 else IntKind.i64.wrap (a0.Boot+1)),Turn:=0,Left:=0 })) fun x1 =>
 some ({ x1 with Name:=a0.Name,Peer:=a0.Peer,Keys:=a0.Keys,Boot:=(if 1000<(IntKind.i64.wrap (a0.Boot+1)) then 1000 else IntKind.i64.wrap (a0.Boot+1)),Want:=a0.Want,Turn:=0,PeerBoot:=a0.PeerBoot,PeerTurn:=a0.PeerTurn,Left:=0 })
theorem J2 {a0:Qv5} {r:Qv5} (h:Q9 a0=some r):EffC Tryz.prog 59 [.ref 9000 0 0] [(9000,.box 36 (heC a0 (.osl 9001 0 a0.Heard.length))),(9001,.arr 96 5 a0.Heard.length (rows Qv4.enc a0.Heard))] (.tup []) [(9000,.box 36 (dI a0.Name :: dI a0.Peer :: .d (slD Qv1.enc a0.Keys) :: dI r.Boot :: .d (slD Qv2.enc a0.Want) :: dI r.Turn :: dI a0.PeerBoot :: dI a0.PeerTurn :: dB r.Up :: dI r.Left :: dI r.Num :: dI r.Under.Kind :: hnC r.Under.Entry ++ [.d (slD Qv2.enc r.Told),dB r.All,dI r.Got,dB r.Full,.osl 5001 0 r.Heard.length,dI r.Keep])),(5001,.arr 96 5 r.Heard.length (rows Qv4.enc r.Heard))]:=by
  refine QQ tOk (fn:=Tryz.f59) (c:=Qj Tryz.f59) rfl rfl ?_;unfold Q9 at h;(conv=>whnf);obtain ⟨x1,hx1,h⟩:=Qa h;refine cE [(9000,9000),(9001,9001)] 1000 (Qcf hx1) ?_;(conv=>whnf);obtain rfl:=sj_ h;exact lfE [.s [(5001,6001),(6001,5001)]]
noncomputable def Q3 (a0:(List Qv2)) (a1:Qv2):Option (Int) :=
 bd (lp (σ:=Int) (β:=(Int ⊕ Unit)) (fun s1 =>
(if (decide (s1<((a0.length:Nat):Int)))=true then
 gd ((0:Int)≤s1∧s1<((a0.length:Nat):Int)) <|
(if ((a1.Addr == ((a0.getD s1.toNat default).Addr)) && ((a1.Len == ((a0.getD s1.toNat default).Len)) && ((a1.Cost == ((a0.getD s1.toNat default).Cost)) && ((a1.Label == ((a0.getD s1.toNat default).Label)) && true))))=true then
 some (.inr (.inl s1))
else
 some (.inl (IntKind.i64.wrap (s1+1))))
else
 some (.inr (.inr ())))) 0) fun x4 =>
(match x4 with
| .inl d6 =>
 some d6
| .inr d7 =>
 some (-1))
theorem Qch {a0:(List Qv2)} {a1:Qv2} {r:Int} (h:Q3 a0 a1=some r):PureC Tryz.prog 157 [.d (slD Qv2.enc a0),.agg (hnC a1)] (dI r) []:=by
  refine Qt tOk (fn:=Tryz.f157) (c:=Qj Tryz.f157) rfl rfl ?_;unfold Q3 at h;(conv=>whnf);refine Qe tOk ?_;(conv=>whnf);obtain ⟨x4,hx4,h⟩:=Qa h;refine Zh tOk hx4 (fun s1=>⟨0,19,[(0,.d (slD Qv2.enc a0)),(3,.ref 3 0 0),(7,dI ((a0.length:Nat):Int)),(8,dI s1)],[],[(3,.box 31 (hnC a1))],[]⟩) ?_ ?_
  · exact leX []
  · clear hx4;intro s1 y2 g3 hy2;(conv=>whnf);refine Qe tOk ?_;(conv=>whnf);refine Qu g3 (fun _ g3=>?_) (fun _ g3=>?_)
    · (conv=>whnf);refine Qe tOk ?_;(conv=>whnf);obtain ⟨g5,g3⟩:=Qg g3;refine QP tOk [] 6 [] [0,0,0,6,14,31] [] ?_;(conv=>whnf);refine And.intro g5 ?_;clear g5;(conv=>whnf);refine And.intro (by kernel_rfl) ?_;(conv=>whnf);refine Qu g3 (fun _ g3=>?_) (fun _ g3=>?_)
      · (conv=>whnf);obtain rfl:=sj_ g3;obtain rfl:=hy2 _ rfl;obtain rfl:=sj_ h;exact lfP []
      · (conv=>whnf);obtain rfl:=sj_ g3;exact ⟨_,rfl,leX []⟩
    · (conv=>whnf);obtain rfl:=sj_ g3;obtain rfl:=hy2 _ rfl;obtain rfl:=sj_ h;exact lfP []
noncomputable def QV (a0:(List Qv2)) (a1:Qv2):Option (Bool) :=
 bd (Q3 a0 a1) fun x1 =>
 some (decide (x1 ≥ 0))
theorem QbJ {a0:(List Qv2)} {a1:Qv2} {r:Bool} (h:QV a0 a1=some r):PureC Tryz.prog 136 [.d (slD Qv2.enc a0),.agg (hnC a1)] (dB r) []:=by
  refine Qt tOk (fn:=Tryz.f136) (c:=Qj Tryz.f136) rfl rfl ?_;unfold QV at h;(conv=>whnf);obtain ⟨x1,hx1,h⟩:=Qa h;refine cC 0 (Qch hx1) ?_;clear hx1;(conv=>whnf);obtain rfl:=sj_ h;exact lfP []
noncomputable def Qac (a0:Qv5):Option (Qv3) :=
 bd (lp (σ:=Int) (β:=((Int × Int) ⊕ Unit)) (fun s1 =>
(if (decide (s1<((a0.Told.length:Nat):Int)))=true then
 gd ((0:Int)≤s1∧s1<((a0.Told.length:Nat):Int)) <|
 bd (Qr (a0.Told.getD s1.toNat default)) fun x6 =>
 bd (J4 a0.Want x6) fun x7 =>
(if (!x7.2)=true then
 some (.inr (.inl ((a0.Told.getD s1.toNat default).Addr,(a0.Told.getD s1.toNat default).Len)))
else
 some (.inl (IntKind.i64.wrap (s1+1))))
else
 some (.inr (.inr ())))) 0) fun x4 =>
(match x4 with
| .inl d8 =>
 some (⟨2,(⟨d8.1,d8.2,0,0⟩:Qv2)⟩:Qv3)
| .inr d9 =>
 bd (lp (σ:=Int) (β:=((Int × Int × Int × Int) ⊕ Unit)) (fun s10 =>
(if (decide (s10<((a0.Want.length:Nat):Int)))=true then
 gd ((0:Int)≤s10∧s10<((a0.Want.length:Nat):Int)) <|
 bd (QV a0.Told (a0.Want.getD s10.toNat default)) fun x15 =>
(if (!x15)=true then
 some (.inr (.inl ((a0.Want.getD s10.toNat default).Addr,(a0.Want.getD s10.toNat default).Len,(a0.Want.getD s10.toNat default).Cost,(a0.Want.getD s10.toNat default).Label)))
else
 some (.inl (IntKind.i64.wrap (s10+1))))
else
 some (.inr (.inr ())))) 0) fun x13 =>
(match x13 with
| .inl d16 =>
 some (⟨1,(⟨d16.1,d16.2.1,d16.2.2.1,d16.2.2.2⟩:Qv2)⟩:Qv3)
| .inr d17 =>
(if (!a0.All)=true then
 some (⟨3,(⟨0,0,0,0⟩:Qv2)⟩:Qv3)
else
 some (⟨0,(⟨0,0,0,0⟩:Qv2)⟩:Qv3))))
theorem Qgt {a0:Qv5} {r:Qv3} (h:Qac a0=some r):PureC Tryz.prog 96 [.agg (heC a0 (.d (slD Qv4.enc a0.Heard)))] (.agg (dI r.Kind :: hnC r.Entry)) []:=by
  refine Qt tOk (fn:=Tryz.f96) (c:=Qj Tryz.f96) rfl rfl ?_;unfold Qac at h;(conv=>whnf);refine Qe tOk ?_;(conv=>whnf);obtain ⟨x4,hx4,h⟩:=Qa h;refine Zh tOk hx4 (fun s1=>⟨0,53,[(1,.ref 1 0 0),(2,.ref 2 0 0),(10,.d (slD Qv2.enc a0.Told)),(11,dI ((a0.Told.length:Nat):Int)),(12,dI s1)],[],[(2,.box 33 [dI 0,dI 0,dI 0,dI 0,dI 0]),(1,.box 36 (heC a0 (.d (slD Qv4.enc a0.Heard))))],[]⟩) ?_ ?_
  · exact leX []
  · clear hx4;intro s1 y2 g3 hy2;(conv=>whnf);refine Qe tOk ?_;(conv=>whnf);refine Qu g3 (fun _ g3=>?_) (fun _ g3=>?_)
    · (conv=>whnf);refine Qe tOk ?_;(conv=>whnf);refine gdI g3 (fun g3=>?_);(conv=>whnf);obtain ⟨x6,hx6,g3⟩:=Qa g3;obtain ⟨x7,hx7,g3⟩:=Qa g3;refine QP tOk [.u 3 0 (.agg [dI x6.Addr,dI x6.Len]) [],.u 4 0 (.tup [dI x7.1,dB x7.2]) []] 10 [] [0,1,0,4,15,31,63,63,127,511] [] ?_;(conv=>whnf);refine And.intro (QM (Qy hx6) (by kernel_rfl)) ?_;(conv=>whnf);refine And.intro (QM (Qdq hx7) (by kernel_rfl)) ?_;(conv=>whnf);refine And.intro (by kernel_rfl) ?_;(conv=>whnf);refine Qu g3 (fun _ g3=>?_) (fun _ g3=>?_)
      · (conv=>whnf);obtain rfl:=sj_ g3;obtain rfl:=hy2 _ rfl;obtain rfl:=sj_ h;exact lfP []
      · (conv=>whnf);obtain rfl:=sj_ g3;exact ⟨_,rfl,leX []⟩
    · (conv=>whnf);obtain rfl:=sj_ g3;obtain rfl:=hy2 _ rfl;refine Qe tOk ?_;(conv=>whnf);obtain ⟨x13,hx13,h⟩:=Qa h;refine Zh tOk hx13 (fun s10=>⟨0,53,[(1,.ref 1 0 0),(2,.ref 2 0 0),(34,.d (slD Qv2.enc a0.Want)),(35,dI ((a0.Want.length:Nat):Int)),(36,dI s10)],[],[(2,.box 33 [dI 0,dI 0,dI 0,dI 0,dI 0]),(1,.box 36 (heC a0 (.d (slD Qv4.enc a0.Heard))))],[]⟩) ?_ ?_
      · exact leX []
      · clear hx13;intro s10 y11 g12 hy11;(conv=>whnf);refine Qe tOk ?_;(conv=>whnf);refine Qu g12 (fun _ g12=>?_) (fun _ g12=>?_)
        · (conv=>whnf);refine Qe tOk ?_;(conv=>whnf);refine gdI g12 (fun g12=>?_);(conv=>whnf);obtain ⟨x15,hx15,g12⟩:=Qa g12;refine cC 0 (QbJ hx15) ?_;clear hx15;(conv=>whnf);refine Qu g12 (fun _ g12=>?_) (fun _ g12=>?_)
          · (conv=>whnf);obtain rfl:=sj_ g12;obtain rfl:=hy11 _ rfl;obtain rfl:=sj_ h;exact lfP []
          · (conv=>whnf);obtain rfl:=sj_ g12;exact ⟨_,rfl,leX []⟩
        · (conv=>whnf);obtain rfl:=sj_ g12;obtain rfl:=hy11 _ rfl;refine Qe tOk ?_;(conv=>whnf);refine Qu h (fun _ h=>?_) (fun _ h=>?_)
          · (conv=>whnf);obtain rfl:=sj_ h;exact lfP []
          · (conv=>whnf);obtain rfl:=sj_ h;exact lfP []
noncomputable def JG (a0:Qv5):Option (Qv7 × Bool × Qv5) :=
 bd (ZR a0) fun x1 =>
(if x1=true then
 some ((⟨0,0,0,0,0,0,0,0,(⟨0,(⟨0,0,0,0⟩:Qv2)⟩:Qv3),0⟩:Qv7),false,a0)
else
(if (a0.Turn == 1000000)=true then
 bd (Q9 a0) fun x2 =>
 some ((⟨0,0,0,0,0,0,0,0,(⟨0,(⟨0,0,0,0⟩:Qv2)⟩:Qv3),0⟩:Qv7),false,{ x2 with Name:=a0.Name,Peer:=a0.Peer,Keys:=a0.Keys,Want:=a0.Want,PeerBoot:=a0.PeerBoot,PeerTurn:=a0.PeerTurn })
else
 bd (α:=Int × Int × Int × Int × Int × Int) ((if (a0.Up && (a0.Under.Kind == 0))=true then
 bd (Qac ({ a0 with Turn:=IntKind.i64.wrap (a0.Turn+1) })) fun x6 =>
(if (x6.Kind != 0)=true then
 some (IntKind.i64.wrap (a0.Num+1),x6.Kind,x6.Entry.Addr,x6.Entry.Len,x6.Entry.Cost,x6.Entry.Label)
else
 some (a0.Num,x6.Kind,x6.Entry.Addr,x6.Entry.Len,x6.Entry.Cost,x6.Entry.Label))
else
 some (a0.Num,a0.Under.Kind,a0.Under.Entry.Addr,a0.Under.Entry.Len,a0.Under.Entry.Cost,a0.Under.Entry.Label))) fun x3 =>
 gd ((0:Int)≤IntKind.i64.wrap (((a0.Keys.length:Nat):Int) - 1)∧IntKind.i64.wrap (((a0.Keys.length:Nat):Int) - 1)<((a0.Keys.length:Nat):Int)) <|
 bd (QaZ ((a0.Keys.getD ((IntKind.i64.wrap (((a0.Keys.length:Nat):Int) - 1)).toNat) default).Secret) (⟨a0.Name,a0.Peer,(a0.Keys.getD ((IntKind.i64.wrap (((a0.Keys.length:Nat):Int) - 1)).toNat) default).Id,a0.Boot,a0.PeerBoot,IntKind.i64.wrap (a0.Turn+1),x3.1,a0.Got,(⟨x3.2.1,(⟨x3.2.2.1,x3.2.2.2.1,x3.2.2.2.2.1,x3.2.2.2.2.2⟩:Qv2)⟩:Qv3),0⟩:Qv7)) fun x8 =>
 some ((⟨a0.Name,a0.Peer,(a0.Keys.getD ((IntKind.i64.wrap (((a0.Keys.length:Nat):Int) - 1)).toNat) default).Id,a0.Boot,a0.PeerBoot,IntKind.i64.wrap (a0.Turn+1),x3.1,a0.Got,(⟨x3.2.1,(⟨x3.2.2.1,x3.2.2.2.1,x3.2.2.2.2.1,x3.2.2.2.2.2⟩:Qv2)⟩:Qv3),x8⟩:Qv7),true,{ a0 with Turn:=IntKind.i64.wrap (a0.Turn+1),Num:=x3.1,Under:=(⟨x3.2.1,(⟨x3.2.2.1,x3.2.2.2.1,x3.2.2.2.2.1,x3.2.2.2.2.2⟩:Qv2)⟩:Qv3) })))
theorem QdR {a0:Qv5} {r:Qv7 × Bool × Qv5} (h:JG a0=some r):EffC Tryz.prog 56 [.ref 9000 0 0] [(9000,.box 36 (heC a0 (.osl 9001 0 a0.Heard.length))),(9001,.arr 96 5 a0.Heard.length (rows Qv4.enc a0.Heard))] (.tup [.agg (hwC r.1),dB r.2.1]) [(9000,.box 36 (dI a0.Name :: dI a0.Peer :: .d (slD Qv1.enc a0.Keys) :: dI r.2.2.Boot :: .d (slD Qv2.enc a0.Want) :: dI r.2.2.Turn :: dI a0.PeerBoot :: dI a0.PeerTurn :: dB r.2.2.Up :: dI r.2.2.Left :: dI r.2.2.Num :: dI r.2.2.Under.Kind :: hnC r.2.2.Under.Entry ++ [.d (slD Qv2.enc r.2.2.Told),dB r.2.2.All,dI r.2.2.Got,dB r.2.2.Full,.osl 5001 0 r.2.2.Heard.length,dI r.2.2.Keep])),(5001,.arr 96 5 r.2.2.Heard.length (rows Qv4.enc r.2.2.Heard))]:=by
  refine QQ tOk (fn:=Tryz.f56) (c:=Qj Tryz.f56) rfl rfl ?_;unfold JG at h;(conv=>whnf);refine Qe tOk ?_;(conv=>whnf);obtain ⟨x1,hx1,h⟩:=Qa h;refine cC 0 (QcF hx1) ?_;clear hx1;(conv=>whnf);refine Qu h (fun _ h=>?_) (fun _ h=>?_)
  · (conv=>whnf);obtain rfl:=sj_ h;exact lfE [.s [(5001,9001),(9001,5001)]]
  · (conv=>whnf);refine Qe tOk ?_;(conv=>whnf);refine Qu h (fun _ h=>?_) (fun _ h=>?_)
    · (conv=>whnf);obtain ⟨x2,hx2,h⟩:=Qa h;refine cE [(9000,9000),(9001,9001)] 1000 (J2 hx2) ?_;(conv=>whnf);obtain rfl:=sj_ h;exact lfE [.s [(5001,6001),(6001,5001)]]
    · (conv=>whnf);obtain ⟨x3,hx3,h⟩:=Qa h;refine Ji tOk (fun s4=>⟨0,109,[(0,.ref 9000 0 0),(2,.ref 2 0 0)],[],[(2,.box 42 [dI 0,dI 0,dI 0,dI 0,dI 0,dI 0,dI 0,dI 0,dI 0,dI 0,dI 0,dI 0,dI 0,dI 0]),(9000,.box 36 [dI a0.Name,dI a0.Peer,.d (slD Qv1.enc a0.Keys),dI a0.Boot,.d (slD Qv2.enc a0.Want),dI (IntKind.i64.wrap (a0.Turn+1)),dI a0.PeerBoot,dI a0.PeerTurn,dB a0.Up,dI a0.Left,dI s4.1,dI s4.2.1,dI s4.2.2.1,dI s4.2.2.2.1,dI s4.2.2.2.2.1,dI s4.2.2.2.2.2,.d (slD Qv2.enc a0.Told),dB a0.All,dI a0.Got,dB a0.Full,.osl 9001 0 a0.Heard.length,dI a0.Keep]),(9001,.arr 96 5 a0.Heard.length (rows Qv4.enc a0.Heard))],[⟨[(0,.ref 9000 0 0)],[]⟩]⟩) (fun s4=>x3=s4) ?_ ?_
      · (conv=>whnf);refine Qu hx3 (fun _ hx3=>?_) (fun _ hx3=>?_)
        · (conv=>whnf);obtain ⟨x6,hx6,hx3⟩:=Qa hx3;refine cC 0 (Qgt hx6) ?_;clear hx6;(conv=>whnf);refine Qu hx3 (fun _ hx3=>?_) (fun _ hx3=>?_)
          · (conv=>whnf);obtain rfl:=sj_ hx3;exact ⟨_,rfl,leX []⟩
          · (conv=>whnf);obtain rfl:=sj_ hx3;exact ⟨_,rfl,leX []⟩
        · (conv=>whnf);obtain rfl:=sj_ hx3;exact ⟨_,rfl,leX []⟩
      · rintro _ rfl;(conv=>whnf);obtain ⟨g7,h⟩:=Qg h;refine QP tOk [] 13 [] [0,1,3,7,0,16,48,112,240,496,1023,2047,0] [8191] ?_;(conv=>whnf);refine And.intro g7 ?_;clear g7;(conv=>whnf);refine And.intro (by kernel_rfl) ?_;(conv=>whnf);refine QP tOk [] 36 [] [0,1,3,7,0,16,48,112,0,256,0,1024,3072,7168,0,16384,49152,114688,0,262144,786432,1835008,0,4194304,12582912,29360128,0,67108864,201326592,469762048,0,1073741824,3221225472,7516192768,17179869183,0] [68719476735] ?_;(conv=>whnf);refine And.intro (by kernel_rfl) ?_;(conv=>whnf);obtain ⟨x8,hx8,h⟩:=Qa h;refine cC 0 (QfC hx8) ?_;clear hx8;(conv=>whnf);obtain rfl:=sj_ h;exact lfE [.s [(5001,9001),(9001,5001)]]
noncomputable def Z1 (a0:Qv5):Option (Qv5) :=
 bd (α:=List Qv4 × Int) ((if (decide (a0.Keep > 0))=true then
(if ((IntKind.i64.wrap (a0.Keep - 1)) == 0)=true then
 bd (Q2 ({ a0 with Keep:=IntKind.i64.wrap (a0.Keep - 1) })) fun x4 =>
 some (x4.Heard,IntKind.i64.wrap (a0.Keep - 1))
else
 some (a0.Heard,IntKind.i64.wrap (a0.Keep - 1)))
else
 some (a0.Heard,a0.Keep))) fun x1 =>
(if (decide (a0.Left > 0))=true then
(if ((IntKind.i64.wrap (a0.Left - 1)) == 0)=true then
 bd (Q9 ({ a0 with Left:=IntKind.i64.wrap (a0.Left - 1),Heard:=x1.1,Keep:=x1.2 })) fun x5 =>
 some ({ x5 with Name:=a0.Name,Peer:=a0.Peer,Keys:=a0.Keys,Want:=a0.Want,PeerBoot:=a0.PeerBoot,PeerTurn:=a0.PeerTurn })
else
 some ({ a0 with Left:=IntKind.i64.wrap (a0.Left - 1),Heard:=x1.1,Keep:=x1.2 }))
else
 some ({ a0 with Heard:=x1.1,Keep:=x1.2 }))
theorem Qdy {a0:Qv5} {r:Qv5} (h:Z1 a0=some r):EffC Tryz.prog 57 [.ref 9000 0 0] [(9000,.box 36 (heC a0 (.osl 9001 0 a0.Heard.length))),(9001,.arr 96 5 a0.Heard.length (rows Qv4.enc a0.Heard))] (.tup []) [(9000,.box 36 (dI a0.Name :: dI a0.Peer :: .d (slD Qv1.enc a0.Keys) :: dI r.Boot :: .d (slD Qv2.enc a0.Want) :: dI r.Turn :: dI a0.PeerBoot :: dI a0.PeerTurn :: dB r.Up :: dI r.Left :: dI r.Num :: dI r.Under.Kind :: hnC r.Under.Entry ++ [.d (slD Qv2.enc r.Told),dB r.All,dI r.Got,dB r.Full,.osl 5001 0 r.Heard.length,dI r.Keep])),(5001,.arr 96 5 r.Heard.length (rows Qv4.enc r.Heard))]:=by
  refine QQ tOk (fn:=Tryz.f57) (c:=Qj Tryz.f57) rfl rfl ?_;unfold Z1 at h;(conv=>whnf);obtain ⟨x1,hx1,h⟩:=Qa h;refine Ji tOk (fun s2=>⟨0,40,[(0,.ref 9000 0 0)],[],[(6001,.arr 96 5 s2.1.length (rows Qv4.enc s2.1)),(9000,.box 36 (dI a0.Name :: dI a0.Peer :: .d (slD Qv1.enc a0.Keys) :: dI a0.Boot :: .d (slD Qv2.enc a0.Want) :: dI a0.Turn :: dI a0.PeerBoot :: dI a0.PeerTurn :: dB a0.Up :: dI a0.Left :: dI a0.Num :: dI a0.Under.Kind :: hnC a0.Under.Entry ++ [.d (slD Qv2.enc a0.Told),dB a0.All,dI a0.Got,dB a0.Full,.osl 6001 0 s2.1.length,dI s2.2]))],[⟨[(0,.ref 9000 0 0)],[]⟩]⟩) (fun s2=>x1=s2) ?_ ?_
  · (conv=>whnf);refine Qu hx1 (fun _ hx1=>?_) (fun _ hx1=>?_)
    · (conv=>whnf);refine Qu hx1 (fun _ hx1=>?_) (fun _ hx1=>?_)
      · (conv=>whnf);obtain ⟨x4,hx4,hx1⟩:=Qa hx1;refine cE [(9000,9000),(9001,9001)] 1000 (Qcg hx4) ?_;(conv=>whnf);obtain rfl:=sj_ hx1;exact ⟨_,rfl,leX []⟩
      · (conv=>whnf);obtain rfl:=sj_ hx1;exact ⟨_,rfl,leX [.s [(6001,9001),(9001,6001)]]⟩
    · (conv=>whnf);obtain rfl:=sj_ hx1;exact ⟨_,rfl,leX [.s [(6001,9001),(9001,6001)]]⟩
  · rintro _ rfl;(conv=>whnf);refine Qu h (fun _ h=>?_) (fun _ h=>?_)
    · (conv=>whnf);refine Qu h (fun _ h=>?_) (fun _ h=>?_)
      · (conv=>whnf);obtain ⟨x5,hx5,h⟩:=Qa h;refine cE [(9000,9000),(9001,6001)] 2000 (J2 hx5) ?_;(conv=>whnf);obtain rfl:=sj_ h;exact lfE [.s [(5001,7001),(7001,5001)]]
      · (conv=>whnf);obtain rfl:=sj_ h;exact lfE [.s [(5001,6001),(6001,5001)]]
    · (conv=>whnf);obtain rfl:=sj_ h;exact lfE [.s [(5001,6001),(6001,5001)]]
noncomputable def Zv (a0:Qv6) (a1:Qv7):Option (Bool) :=
 bd (Qaj a0.End.Keys a1) fun x1 =>
 some x1
theorem Qcq {a0:Qv6} {a1:Qv7} {r:Bool} (h:Zv a0 a1=some r):PureC Tryz.prog 54 [.agg (dB a0.Up :: heC a0.End (.d (slD Qv4.enc a0.End.Heard))),.rp [.int .i64 a1.From,.int .i64 a1.To,.int .i64 a1.Key,.int .i64 a1.Boot,.int .i64 a1.Yours,.int .i64 a1.Turn,.int .i64 a1.Num,.int .i64 a1.Heard,.int .i64 a1.Change.Kind,.int .i64 a1.Change.Entry.Addr,.int .i64 a1.Change.Entry.Len,.int .i64 a1.Change.Entry.Cost,.int .i64 a1.Change.Entry.Label,.int .i64 a1.Sum]] (dB r) []:=by
  refine Qt tOk (fn:=Tryz.f54) (c:=Qj Tryz.f54) rfl rfl ?_;unfold Zv at h;(conv=>whnf);obtain ⟨x1,hx1,h⟩:=Qa h;refine cC 0 (Qez hx1) ?_;clear hx1;(conv=>whnf);obtain rfl:=sj_ h;exact lfP []
noncomputable def Qo (a0:(List Qv6)) (a1c0:Qv7):Option (Int) :=
 bd (lp (σ:=Int) (β:=(Int ⊕ Unit)) (fun s1 =>
(if (decide (s1<((a0.length:Nat):Int)))=true then
 gd ((0:Int)≤s1∧s1<((a0.length:Nat):Int)) <|
 bd (Zv (⟨(a0.getD s1.toNat default).Up,{ ((a0.getD s1.toNat default).End) with Under:=(⟨(((a0.getD s1.toNat default).End).Under).Kind,((((a0.getD s1.toNat default).End).Under).Entry)⟩:Qv3) }⟩:Qv6) a1c0) fun x6 =>
(if x6=true then
 some (.inr (.inl s1))
else
 some (.inl (IntKind.i64.wrap (s1+1))))
else
 some (.inr (.inr ())))) 0) fun x4 =>
(match x4 with
| .inl d7 =>
 some d7
| .inr d8 =>
 some (-1))
theorem ZU {a0:(List Qv6)} {a1c0:Qv7} {r:Int} (h:Qo a0 a1c0=some r):PureC Tryz.prog 91 [.d (slD Qv6.enc a0),.fn 54 [.rp [.int .i64 a1c0.From,.int .i64 a1c0.To,.int .i64 a1c0.Key,.int .i64 a1c0.Boot,.int .i64 a1c0.Yours,.int .i64 a1c0.Turn,.int .i64 a1c0.Num,.int .i64 a1c0.Heard,.int .i64 a1c0.Change.Kind,.int .i64 a1c0.Change.Entry.Addr,.int .i64 a1c0.Change.Entry.Len,.int .i64 a1c0.Change.Entry.Cost,.int .i64 a1c0.Change.Entry.Label,.int .i64 a1c0.Sum]]] (dI r) []:=by
  refine Qt tOk (fn:=Tryz.f91) (c:=Qj Tryz.f91) rfl rfl ?_;unfold Qo at h;(conv=>whnf);refine Qe tOk ?_;(conv=>whnf);obtain ⟨x4,hx4,h⟩:=Qa h;refine Zh tOk hx4 (fun s1=>⟨0,19,[(0,.d (slD Qv6.enc a0)),(1,.fn 54 [.rp [.int .i64 a1c0.From,.int .i64 a1c0.To,.int .i64 a1c0.Key,.int .i64 a1c0.Boot,.int .i64 a1c0.Yours,.int .i64 a1c0.Turn,.int .i64 a1c0.Num,.int .i64 a1c0.Heard,.int .i64 a1c0.Change.Kind,.int .i64 a1c0.Change.Entry.Addr,.int .i64 a1c0.Change.Entry.Len,.int .i64 a1c0.Change.Entry.Cost,.int .i64 a1c0.Change.Entry.Label,.int .i64 a1c0.Sum]]),(7,dI ((a0.length:Nat):Int)),(8,dI s1)],[],[],[]⟩) ?_ ?_
  · exact leX []
  · clear hx4;intro s1 y2 g3 hy2;(conv=>whnf);refine Qe tOk ?_;(conv=>whnf);refine Qu g3 (fun _ g3=>?_) (fun _ g3=>?_)
    · (conv=>whnf);refine Qe tOk ?_;(conv=>whnf);refine gdI g3 (fun g3=>?_);(conv=>whnf);obtain ⟨x6,hx6,g3⟩:=Qa g3;refine cC 0 (Qcq hx6) ?_;clear hx6;(conv=>whnf);refine Qu g3 (fun _ g3=>?_) (fun _ g3=>?_)
      · (conv=>whnf);obtain rfl:=sj_ g3;obtain rfl:=hy2 _ rfl;obtain rfl:=sj_ h;exact lfP []
      · (conv=>whnf);obtain rfl:=sj_ g3;exact ⟨_,rfl,leX []⟩
    · (conv=>whnf);obtain rfl:=sj_ g3;obtain rfl:=hy2 _ rfl;obtain rfl:=sj_ h;exact lfP []
noncomputable def Qk (a0:(List Qv6)) (a1c0:Qv7):Option (Bool) :=
 bd (Qo a0 a1c0) fun x1 =>
 some (decide (x1 ≥ 0))
theorem ZH {a0:(List Qv6)} {a1c0:Qv7} {r:Bool} (h:Qk a0 a1c0=some r):PureC Tryz.prog 53 [.d (slD Qv6.enc a0),.fn 54 [.rp [.int .i64 a1c0.From,.int .i64 a1c0.To,.int .i64 a1c0.Key,.int .i64 a1c0.Boot,.int .i64 a1c0.Yours,.int .i64 a1c0.Turn,.int .i64 a1c0.Num,.int .i64 a1c0.Heard,.int .i64 a1c0.Change.Kind,.int .i64 a1c0.Change.Entry.Addr,.int .i64 a1c0.Change.Entry.Len,.int .i64 a1c0.Change.Entry.Cost,.int .i64 a1c0.Change.Entry.Label,.int .i64 a1c0.Sum]]] (dB r) []:=by
  refine Qt tOk (fn:=Tryz.f53) (c:=Qj Tryz.f53) rfl rfl ?_;unfold Qk at h;(conv=>whnf);obtain ⟨x1,hx1,h⟩:=Qa h;refine cC 0 (ZU hx1) ?_;clear hx1;(conv=>whnf);obtain rfl:=sj_ h;exact lfP []
noncomputable def ZF (a0:Qv8) (a1:Qv7):Option (Bool) :=
 bd (Qk a0.Sides a1) fun x1 =>
 some x1
theorem QcG {a0:Qv8} {a1:Qv7} {r:Bool} (h:ZF a0 a1=some r):PureC Tryz.prog 28 [.rp [slD Qv6.enc a0.Sides,slD Qv7.enc a0.Radio],.agg (hwC a1)] (dB r) []:=by
  refine Qt tOk (fn:=Tryz.f28) (c:=Qj Tryz.f28) rfl rfl ?_;unfold ZF at h;(conv=>whnf);obtain ⟨x1,hx1,h⟩:=Qa h;refine cC 0 (ZH hx1) ?_;clear hx1;(conv=>whnf);obtain rfl:=sj_ h;exact lfP []
noncomputable def QbY (a0:Qv5):Option (Qv5) :=
 bd (Zp a0.Keys) fun x1 =>
 bd (QF a0.Want) fun x2 =>
 some ({ a0 with Keys:=x1,Want:=x2,Turn:=0,PeerBoot:=0,PeerTurn:=0,Up:=false,Left:=0,Num:=0,Under:=(⟨0,(⟨0,0,0,0⟩:Qv2)⟩:Qv3),Told:=[],All:=false,Got:=0,Full:=false,Heard:=[],Keep:=0 })
theorem Qhn {a0:Qv5} {r:Qv5} (h:QbY a0=some r):PureC Tryz.prog 58 [.agg (heC a0 (.d (slD Qv4.enc a0.Heard)))] (.agg (dI r.Name :: dI r.Peer :: .osl 5001 0 r.Keys.length :: dI r.Boot :: .osl 5002 0 r.Want.length :: dI r.Turn :: dI r.PeerBoot :: dI r.PeerTurn :: dB r.Up :: dI r.Left :: dI r.Num :: dI r.Under.Kind :: hnC r.Under.Entry ++ [.osl 5003 0 r.Told.length,dB r.All,dI r.Got,dB r.Full,.osl 5004 0 r.Heard.length,dI r.Keep])) [⟨5001,93,2,r.Keys.length,rows Qv1.enc r.Keys⟩,⟨5002,31,4,r.Want.length,rows Qv2.enc r.Want⟩,⟨5003,31,4,r.Told.length,rows Qv2.enc r.Told⟩,⟨5004,96,5,r.Heard.length,rows Qv4.enc r.Heard⟩]:=by
  refine Qt tOk (fn:=Tryz.f58) (c:=Qj Tryz.f58) rfl rfl ?_;unfold QbY at h;(conv=>whnf);obtain ⟨x1,hx1,h⟩:=Qa h;obtain ⟨x2,hx2,h⟩:=Qa h;refine QP tOk [.u 6 1000 (.osl 5001 0 x1.length) [⟨5001,93,2,x1.length,rows Qv1.enc x1⟩],.u 11 2000 (.osl 5001 0 x2.length) [⟨5001,31,4,x2.length,rows Qv2.enc x2⟩]] 13 [] [0,1,0,4,0,16,48,0,128,0,512,1648,4095] [8191] ?_;(conv=>whnf);refine And.intro (QM (QaE hx1) (by kernel_rfl)) ?_;(conv=>whnf);refine And.intro (QM (Zt hx2) (by kernel_rfl)) ?_;(conv=>whnf);refine And.intro (by kernel_rfl) ?_;(conv=>whnf);obtain rfl:=sj_ h;exact lfP [.k [1],.s [(5001,6001),(5002,7001),(6001,5001),(7001,5002)],.p 5003 31 4 (rows Qv2.enc ([]:List Qv2)),.p 5004 96 5 (rows Qv4.enc ([]:List Qv4))]
noncomputable def Q8 (a0:(List Qv7)) (a1:Int) (a2:Int):Option ((List Qv7)) :=
 gd (0≤a1∧a1≤a2∧a2≤a0.length) <|
 some (Qjs a0 a1.toNat a2.toNat)
theorem Qcr {a0:(List Qv7)} {a1:Int} {a2:Int} {r:(List Qv7)} (h:Q8 a0 a1 a2=some r):EffC Tryz.prog 50 [.osl 9000 0 a0.length,dI a1,dI a2] [(9000,.arr 42 14 a0.length (rows Qv7.enc a0))] (.osl 5001 0 r.length) [(5001,.arr 42 14 r.length (rows Qv7.enc r))]:=by
  unfold Q8 at h;have L:LDel Tryz.prog ⟨fun x=>match x with | 45=>50 | _=>0,fun x=>match x with | 0=>0 | 3=>3 | 4=>4 | 22=>24 | 23=>42 | _=>0,fun x=>x⟩ 14 (.agg #[.int .i64 0,.int .i64 0,.int .i64 0,.int .i64 0,.int .i64 0,.int .i64 0,.int .i64 0,.int .i64 0,.int .i64 0,.int .i64 0,.int .i64 0,.int .i64 0,.int .i64 0,.int .i64 0]):=⟨by kernel_rfl,⟨Tryz.f50.name,by kernel_rfl,by kernel_rfl⟩,by kernel_rfl,fun w=>by kernel_rfl,fun w=>by kernel_rfl,fun w=>by kernel_rfl,by kernel_rfl,fun w=>by kernel_rfl,fun w=>by kernel_rfl,fun w=>by kernel_rfl,by kernel_rfl,fun w=>by kernel_rfl,fun w=>by kernel_rfl,fun w=>by kernel_rfl,by kernel_rfl,fun w=>by kernel_rfl,fun w=>by kernel_rfl,fun w=>by kernel_rfl,⟨_,rfl,rfl⟩,fun w=>by kernel_rfl,fun w=>by kernel_rfl,by kernel_rfl,fun u hu=>List.all_eq_true.1 (by kernel_rfl:(List.all (Value.cells (.agg #[.int .i64 0,.int .i64 0,.int .i64 0,.int .i64 0,.int .i64 0,.int .i64 0,.int .i64 0,.int .i64 0,.int .i64 0,.int .i64 0,.int .i64 0,.int .i64 0,.int .i64 0,.int .i64 0])).toList Value.oneCell')=true) u hu⟩;obtain ⟨g,h⟩:=Qg h;obtain rfl:=sj_ h;have k:=QlG (t:=42) (enc:=Qv7.enc) L (Qqy (fn:=Tryz.f50) (c:=Qj Tryz.f50) rfl rfl (by kernel_rfl)) (fun _=>rfl) (xs:=a0) (i:=a1.toNat) (j:=a2.toNat) (by omega) (by omega);rw [show ((a1.toNat:Nat):Int)=a1 by omega,show ((a2.toNat:Nat):Int)=a2 by omega] at k;exact k
noncomputable def Jq (a0:(List Qv4)):Option ((List Qv4)) :=
 gd ((0:Int)≤0∧0≤((a0.length:Nat):Int)∧((a0.length:Nat):Int)*40≤140737488355328∧((a0.length:Nat):Int)≤140737488355328) <|
 gd ((((List.replicate (0:Int).toNat (default:Qv4)).length)+(a0.length))*(40+1)≤70368744177664) <|
 some ((List.replicate (0:Int).toNat (default:Qv4)) ++ a0)
theorem QeV {a0:(List Qv4)} {r:(List Qv4)} (h:Jq a0=some r):PureC Tryz.prog 86 [.d (slD Qv4.enc a0)] (.osl 5001 0 r.length) [⟨5001,96,5,r.length,rows Qv4.enc r⟩]:=by
  refine Qt tOk (fn:=Tryz.f86) (c:=Qj Tryz.f86) rfl rfl ?_;unfold Jq at h;(conv=>whnf);obtain ⟨g2,h⟩:=Qg h;refine And.intro g2 ?_;clear g2;refine ⟨(List.replicate (0:Int).toNat (default:Qv4)).length,rows Qv4.enc (List.replicate (0:Int).toNat (default:Qv4)),by simp,Qhl rfl,?_⟩;(conv=>whnf);refine gdI h (fun h=>?_);refine Qh0 (enc:=Qv4.enc) (xs:=(List.replicate (0:Int).toNat (default:Qv4))) (ys:=a0) ?_;(conv=>whnf);obtain rfl:=sj_ h;exact lfP [.s [(5,5001),(5001,5)]]
noncomputable def Zj (a0:Qv5):Option (Qv5) :=
 bd (Zp a0.Keys) fun x1 =>
 bd (QF a0.Want) fun x2 =>
 bd (QF a0.Told) fun x3 =>
 bd (Jq a0.Heard) fun x4 =>
 some ({ a0 with Keys:=x1,Want:=x2,Told:=x3,Heard:=x4 })
theorem Qbv {a0:Qv5} {r:Qv5} (h:Zj a0=some r):EffC Tryz.prog 48 [.agg (heC a0 (.d (slD Qv4.enc a0.Heard)))] [] (.agg (heC r (.osl 5001 0 r.Heard.length))) [(5001,.arr 96 5 r.Heard.length (rows Qv4.enc r.Heard))]:=by
  refine QQ tOk (fn:=Tryz.f48) (c:=Qj Tryz.f48) rfl rfl ?_;unfold Zj at h;(conv=>whnf);obtain ⟨x1,hx1,h⟩:=Qa h;obtain ⟨x2,hx2,h⟩:=Qa h;obtain ⟨x3,hx3,h⟩:=Qa h;obtain ⟨x4,hx4,h⟩:=Qa h;refine QP tOk [.u 2 1000 (.osl 5001 0 x1.length) [⟨5001,93,2,x1.length,rows Qv1.enc x1⟩],.u 5 2000 (.osl 5001 0 x2.length) [⟨5001,31,4,x2.length,rows Qv2.enc x2⟩],.u 8 3000 (.osl 5001 0 x3.length) [⟨5001,31,4,x3.length,rows Qv2.enc x3⟩],.u 11 4000 (.osl 5001 0 x4.length) [⟨5001,96,5,x4.length,rows Qv4.enc x4⟩]] 13 [] [0,1,3,0,8,31,0,64,255,0,512,2047,1759] [8191,16383,32767,65535,131071,262143,524287] ?_;(conv=>whnf);refine And.intro (QM (QaE hx1) (by kernel_rfl)) ?_;(conv=>whnf);refine And.intro (QM (Zt hx2) (by kernel_rfl)) ?_;(conv=>whnf);refine And.intro (QM (Zt hx3) (by kernel_rfl)) ?_;(conv=>whnf);refine And.intro (QM (QeV hx4) (by kernel_rfl)) ?_;(conv=>whnf);refine And.intro (by kernel_rfl) ?_;(conv=>whnf);obtain rfl:=sj_ h;exact lfE [.f [6001,7001,8001],.s [(5001,9001),(9001,5001)]]
@[reducible] def hsC (s:Qv6) (h:V):List V:=.d (.bool s.Up) :: heC s.End h
@[reducible] def heA (e:Qv5):Blk:=.arr 96 5 e.Heard.length (rows Qv4.enc e.Heard)
noncomputable def QeA (p q:Qv6) (rd:List Qv7):Option (Qv6 × Qv6 × List Qv7) :=
 bd (JB rd) fun x1 =>
 bd (Zj p.End) fun x2 =>
 bd (Zj q.End) fun x3 =>
 some (⟨p.Up,x2⟩,⟨q.Up,x3⟩,x1)
theorem QmB {p q:Qv6} {rd:List Qv7} {r:Qv6 × Qv6 × List Qv7} (h:QeA p q rd=some r):EffC Tryz.prog 25 [.agg [.d (slD Qv6.enc [p,q]),.d (slD Qv7.enc rd)]] [] (.agg [.osl 5001 0 2,.osl 5002 0 r.2.2.length])
    [(5001,.box 2000038 (hsC r.1 (.osl 5003 0 r.1.End.Heard.length) ++ hsC r.2.1 (.osl 5004 0 r.2.1.End.Heard.length))),(5002,.arr 42 14 r.2.2.length (rows Qv7.enc r.2.2)),(5003,.arr 96 5 r.1.End.Heard.length (rows Qv4.enc r.1.End.Heard)),(5004,.arr 96 5 r.2.1.End.Heard.length (rows Qv4.enc r.2.1.End.Heard))]:=by
  refine QQ tOk (fn:=Tryz.f25) (c:=Qj Tryz.f25) rfl rfl ?_;unfold QeA at h;(conv=>whnf);obtain ⟨x1,hx1,h⟩:=Qa h;obtain ⟨x2,hx2,h⟩:=Qa h;obtain ⟨x3,hx3,h⟩:=Qa h;obtain rfl:=sj_ h;refine cC 1000 (Qfs hx1) ?_;clear hx1;(conv=>whnf);refine Qe tOk ?_;(conv=>whnf);refine Qoy tOk 3 ?_;(conv=>whnf);refine Qe tOk ?_;(conv=>whnf);refine ⟨fun _=>?_,fun h0=>by cases h0⟩;(conv=>whnf);refine Qe tOk ?_;(conv=>whnf);refine ⟨by simp,?_⟩;(conv=>whnf);refine JA tOk [.e 6 [] (.agg (heC x2 (.osl 6003 0 x2.Heard.length))) [] [(6003,heA x2)],.a 8 [(6003,heA x2)] (.osl 25 0 1) [(25,(.box 1000038 (hsC ⟨p.Up,x2⟩ (.osl 6003 0 x2.Heard.length)))),(6003,heA x2)],.a 9 [(25,(.box 1000038 (hsC ⟨p.Up,x2⟩ (.osl 6003 0 x2.Heard.length)))),(6003,heA x2)] (.osl 26 0 1) [(26,(.box 1000038 (hsC ⟨p.Up,x2⟩ (.osl 6003 0 x2.Heard.length)))),(25,(.box 1000038 (hsC ⟨p.Up,x2⟩ (.osl 6003 0 x2.Heard.length)))),(6003,heA x2)]] 10 [] [0,1,0,4,0,16,48,124,252,511] [1023,2047] [] ?_;(conv=>whnf);refine And.intro (eH [(5001,6003)] 0 (Qbv hx2)) ?_;(conv=>whnf);refine And.intro (by (conv=>whnf); exact ⟨by kernel_rfl,by kernel_rfl⟩) ?_;(conv=>whnf);refine And.intro (by (conv=>whnf); exact ⟨by kernel_rfl,by kernel_rfl⟩) ?_;(conv=>whnf);refine And.intro (by kernel_rfl) ?_;(conv=>whnf);refine Qtd [1,2,3,11,12,13,14] [.s [(26,7001),(7001,26)],.k [25,5]] ?_;(conv=>whnf);refine ⟨⟨by kernel_rfl⟩,?_⟩;(conv=>whnf);refine Qe tOk ?_;(conv=>whnf);refine ⟨fun _=>?_,fun h0=>by cases h0⟩;(conv=>whnf);refine Qe tOk ?_;(conv=>whnf);refine ⟨⟨(by decide:(0:Int)≤IntKind.i64.wrap (0+1)),(by decide:IntKind.i64.wrap (0+1)<(2:Int))⟩,?_⟩;(conv=>whnf);refine JA tOk [.e 6 [] (.agg (heC x3 (.osl 6004 0 x3.Heard.length))) [] [(6004,heA x3)],.a 8 [(6004,heA x3)] (.osl 25 0 1) [(25,(.box 1000038 (hsC ⟨q.Up,x3⟩ (.osl 6004 0 x3.Heard.length)))),(6004,heA x3)],.a 9 [(25,(.box 1000038 (hsC ⟨q.Up,x3⟩ (.osl 6004 0 x3.Heard.length)))),(7001,(.box 1000038 (hsC ⟨p.Up,x2⟩ (.osl 6003 0 x2.Heard.length)))),(6004,heA x3)] (.osl 26 0 2) [(26,(.box 2000038 (hsC ⟨p.Up,x2⟩ (.osl 6003 0 x2.Heard.length) ++ hsC ⟨q.Up,x3⟩ (.osl 6004 0 x3.Heard.length)))),(25,(.box 1000038 (hsC ⟨q.Up,x3⟩ (.osl 6004 0 x3.Heard.length)))),(6004,heA x3)]] 10 [] [0,1,0,4,0,16,48,124,252,511] [1023,2047] [7001] ?_;(conv=>whnf);refine And.intro (eH [(5001,6004)] 0 (Qbv hx3)) ?_;(conv=>whnf);refine And.intro (by (conv=>whnf); exact ⟨by kernel_rfl,by kernel_rfl⟩) ?_;(conv=>whnf);refine And.intro (by (conv=>whnf); exact ⟨by kernel_rfl,by kernel_rfl⟩) ?_;(conv=>whnf);refine And.intro (by kernel_rfl) ?_;(conv=>whnf);refine Qtd [1,2,3,11,12,13,14] [] ?_;(conv=>whnf);refine Qe tOk ?_;(conv=>whnf);refine ⟨fun h0=>(by cases h0),fun _=>?_⟩;(conv=>whnf);exact lfE [.s [(26,5001),(5001,26),(6001,5002),(5002,6001),(6003,5003),(5003,6003),(6004,5004),(5004,6004)]]
@[reducible] def hwR (rd:List Qv7):Blk:=.arr 42 14 rd.length (rows Qv7.enc rd)
@[reducible] def hwS (h0 h1:Nat) (s0 s1:Qv6):Blk:=.box 2000038 (hsC s0 (.osl h0 0 s0.End.Heard.length) ++ hsC s1 (.osl h1 0 s1.End.Heard.length))
@[reducible] def hwB (q S R h0 h1:Nat) (s0 s1:Qv6) (rd:List Qv7):List (Nat × Blk):=[(q,.box 26 [.osl S 0 2,.osl R 0 rd.length]),(S,hwS h0 h1 s0 s1),(R,hwR rd),(h0,heA s0.End),(h1,heA s1.End)]
noncomputable def Qeb (rd:List Qv7) (x:Qv7):Option (List Qv7) :=
(if (decide (((rd.length:Nat):Int)<12))=true then
 gd (((rd.length)+(([x]:List Qv7).length))*(112+1)≤70368744177664) <|
 some (rd ++ ([x]:List Qv7))
else
 some rd)
theorem QiZ {s0 s1:Qv6} {rd r:List Qv7} {x:Qv7} (h:Qeb rd x=some r):EffC Tryz.prog 29 [.ref 9000 0 0,.agg (hwC x)] (hwB 9000 9001 9002 9003 9004 s0 s1 rd) (.tup []) (hwB 9000 9001 5002 9003 9004 s0 s1 r):=by
  refine QQ tOk (fn:=Tryz.f29) (c:=Qj Tryz.f29) rfl rfl ?_;unfold Qeb at h;(conv=>whnf);refine Qu h (fun _ h=>?_) (fun _ h=>?_)
  · (conv=>whnf);obtain ⟨g1,h⟩:=Qg h;refine JA tOk [.a 7 [(9002,hwR rd)] (.osl 17 0 ((rd ++ ([x]:List Qv7)).length)) [(17,hwR (rd ++ [x]))]] 10 [] [0,0,2,6,14,0,32,126,255,511] [1023] [9002] ?_;(conv=>whnf);refine QcT (enc:=Qv7.enc) ([x]:List Qv7) ?_;(conv=>whnf);refine And.intro (by (conv=>whnf); exact ⟨g1,Qh0 (enc:=Qv7.enc) (xs:=rd) (ys:=([x]:List Qv7)) ⟨rfl,rfl⟩⟩) ?_;(conv=>whnf);refine And.intro (by kernel_rfl) ?_;(conv=>whnf);obtain rfl:=sj_ h;exact lfE [.s [(17,5002),(5002,17)]]
  · (conv=>whnf);obtain rfl:=sj_ h;exact lfE [.s [(5002,9002),(9002,5002)]]
@[reducible] def Qpy (e r:Qv5):Qv5:={ r with Name:=e.Name,Peer:=e.Peer,Keys:=e.Keys,Boot:=e.Boot,Want:=e.Want,Turn:=e.Turn }
noncomputable def QeB (s0 s1:Qv6) (x:Qv7):Option (Qv6 × Qv6) :=
(if (s0.Up && (s0.End.Name == x.To))=true then
 bd (Z0 s0.End x) fun r=>some (⟨s0.Up,Qpy s0.End r⟩,s1)
else
(if (s1.Up && (s1.End.Name == x.To))=true then
 bd (Z0 s1.End x) fun r=>some (s0,⟨s1.Up,Qpy s1.End r⟩)
else
 some (s0,s1)))
theorem Qpz {s0 s1:Qv6} {rd:List Qv7} {r:Qv6 × Qv6} {x:Qv7} (h:QeB s0 s1 x=some r):EffC Tryz.prog 51 [.ref 9000 0 0,.agg (hwC x)] (hwB 9000 9001 9002 9003 9004 s0 s1 rd) (.tup []) (hwB 9000 9001 9002 5003 5004 r.1 r.2 rd):=by
  refine QQ tOk (fn:=Tryz.f51) (c:=Qj Tryz.f51) rfl rfl ?_;unfold QeB at h;(conv=>whnf);refine Qoy tOk 3 ?_;(conv=>whnf);refine Qe tOk ?_;(conv=>whnf);refine ⟨fun _=>?_,fun h0=>by cases h0⟩;(conv=>whnf);refine Qe tOk ?_;(conv=>whnf);refine ⟨⟨by decide,by decide⟩,?_⟩;(conv=>whnf);refine QP tOk [] 14 [] [0,1,3,7,15,31,63,127,255,511,31,1055,4095,8191] [] ?_;(conv=>whnf);refine And.intro (by kernel_rfl) ?_;(conv=>whnf);refine Qu h (fun _ h=>?_) (fun _ h=>?_)
  · (conv=>whnf);obtain ⟨x1,hx1,h⟩:=Qa h;obtain rfl:=sj_ h;refine JA tOk [.e 4 [(9001,hwS 9003 9004 s0 s1),(9003,heA s0.End),(9004,heA s1.End)] (.tup []) [] [(6003,heA x1),(9001,hwS 6003 9004 ⟨s0.Up,Qpy s0.End x1⟩ s1),(9004,heA s1.End)]] 5 [] [0,1,3,0,15] [] [9001,9003,9004] ?_;(conv=>whnf);refine And.intro (eH [(9002,9001),(9001,9003),(9003,9004),(5001,6003)] 0 (Qte 9002 2000038 [.d (.bool s0.Up)] (hsC s1 (.osl 9003 0 s1.End.Heard.length)) [(9003,heA s1.End)] (Qdx hx1))) ?_;(conv=>whnf);refine And.intro (by kernel_rfl) ?_;(conv=>whnf);exact lfE [.s [(6003,5003),(5003,6003),(9004,5004),(5004,9004)]]
  · (conv=>whnf);refine Qe tOk ?_;(conv=>whnf);refine ⟨fun _=>?_,fun h0=>by cases h0⟩;(conv=>whnf);refine Qe tOk ?_;(conv=>whnf);refine ⟨⟨by decide,by decide⟩,?_⟩;(conv=>whnf);refine QP tOk [] 14 [] [0,1,3,7,15,31,63,127,255,511,31,1055,4095,8191] [] ?_;(conv=>whnf);refine And.intro (by kernel_rfl) ?_;(conv=>whnf);refine Qu h (fun _ h=>?_) (fun _ h=>?_)
    · (conv=>whnf);obtain ⟨x1,hx1,h⟩:=Qa h;obtain rfl:=sj_ h;refine JA tOk [.e 4 [(9001,hwS 9003 9004 s0 s1),(9003,heA s0.End),(9004,heA s1.End)] (.tup []) [] [(6003,heA x1),(9001,hwS 9003 6003 s0 ⟨s1.Up,Qpy s1.End x1⟩),(9003,heA s0.End)]] 5 [] [0,1,3,0,15] [] [9001,9003,9004] ?_;(conv=>whnf);refine And.intro (eH [(9002,9001),(9001,9004),(9003,9003),(5001,6003)] 0 (Qte 9002 2000038 (hsC s0 (.osl 9003 0 s0.End.Heard.length) ++ [.d (.bool s1.Up)]) [] [(9003,heA s0.End)] (Qdx hx1))) ?_;(conv=>whnf);refine And.intro (by kernel_rfl) ?_;(conv=>whnf);exact lfE [.s [(9003,5003),(5003,9003),(6003,5004),(5004,6003)]]
    · (conv=>whnf);obtain rfl:=sj_ h;refine Qe tOk ?_;(conv=>whnf);refine ⟨fun h0=>(by cases h0),fun _=>?_⟩;(conv=>whnf);exact lfE [.s [(9003,5003),(5003,9003),(9004,5004),(5004,9004)]]
noncomputable def Qa4 (s0 s1:Qv6) (rd:List Qv7) (kind at_:Int):Option (Qv6 × Qv6 × List Qv7) :=
 bd (Qw at_ 0 (IntKind.i64.wrap (((rd.length:Nat):Int) - 1))) fun x1 =>
(if (!x1)=true then
 some (s0,s1,rd)
else
 gd ((0:Int)≤at_∧at_<((rd.length:Nat):Int)) <|
(if (kind == 3)=true then
 bd (Qeb rd (rd.getD at_.toNat default)) fun y=>some (s0,s1,y)
else
 bd (Q8 rd at_ (IntKind.i64.wrap (at_+1))) fun y =>
(if (kind == 2)=true then
 bd (QeB s0 s1 (rd.getD at_.toNat default)) fun z=>some (z.1,z.2,y)
else
 some (s0,s1,y))))
theorem QeW {s0 s1:Qv6} {rd:List Qv7} {kind at_:Int} {r:Qv6 × Qv6 × List Qv7} (h:Qa4 s0 s1 rd kind at_=some r):EffC Tryz.prog 26 [.ref 9000 0 0,.d (.int .i64 kind),.d (.int .i64 at_)] (hwB 9000 9001 9002 9003 9004 s0 s1 rd) (.tup []) (hwB 9000 9001 5002 5003 5004 r.1 r.2.1 r.2.2):=by
  refine QQ tOk (fn:=Tryz.f26) (c:=Qj Tryz.f26) rfl rfl ?_;unfold Qa4 at h;(conv=>whnf);refine Qe tOk ?_;(conv=>whnf);obtain ⟨x1,hx1,h⟩:=Qa h;refine cC 0 (Qz hx1) ?_;clear hx1;(conv=>whnf);refine Qu h (fun _ h=>?_) (fun _ h=>?_)
  · (conv=>whnf);obtain rfl:=sj_ h;exact lfE [.s [(9002,5002),(5002,9002),(9003,5003),(5003,9003),(9004,5004),(5004,9004)]]
  · (conv=>whnf);refine gdI h (fun h=>?_);(conv=>whnf);refine Qe tOk ?_;(conv=>whnf);refine Qu h (fun _ h=>?_) (fun _ h=>?_)
    · (conv=>whnf);obtain ⟨y,hy,h⟩:=Qa h;obtain rfl:=sj_ h;refine cE [(5002,6002)] 0 (QiZ (s0:=s0) (s1:=s1) hy) ?_;(conv=>whnf);exact lfE [.s [(6002,5002),(5002,6002),(9003,5003),(5003,9003),(9004,5004),(5004,9004)]]
    · (conv=>whnf);obtain ⟨y,hy,h⟩:=Qa h;refine cE [(9000,9002),(5001,6002)] 0 (Qcr hy) ?_;(conv=>whnf);refine Qu h (fun _ h=>?_) (fun _ h=>?_)
      · (conv=>whnf);obtain ⟨z,hz,h⟩:=Qa h;obtain rfl:=sj_ h;refine cE [(9002,6002),(5003,6003),(5004,6004)] 0 (Qpz (rd:=y) hz) ?_;(conv=>whnf);exact lfE [.s [(6002,5002),(5002,6002),(6003,5003),(5003,6003),(6004,5004),(5004,6004)]]
      · (conv=>whnf);obtain rfl:=sj_ h;exact lfE [.s [(6002,5002),(5002,6002),(9003,5003),(5003,9003),(9004,5004),(5004,9004)]]
noncomputable def QbZ (s0 s1:Qv6) (rd:List Qv7):Option (Qv6 × Qv6 × List Qv7) :=
 lp (σ:=Qv6 × Qv6 × List Qv7) (β:=Qv6 × Qv6 × List Qv7) (fun s =>
(if (decide (((s.2.2.length:Nat):Int) > 0))=true then
 bd (Qa4 s.1 s.2.1 s.2.2 2 0) fun y=>some (.inl y)
else
 some (.inr s))) (s0,s1,rd)
theorem Qho {s0 s1:Qv6} {rd:List Qv7} {r:Qv6 × Qv6 × List Qv7} (h:QbZ s0 s1 rd=some r):EffC Tryz.prog 31 [.ref 9000 0 0] (hwB 9000 9001 9002 9003 9004 s0 s1 rd) (.tup []) (hwB 9000 9001 5002 5003 5004 r.1 r.2.1 r.2.2):=by
  refine QQ tOk (fn:=Tryz.f31) (c:=Qj Tryz.f31) rfl rfl ?_;unfold QbZ at h;(conv=>whnf);refine Zh tOk h (fun s=>⟨0,10,[(0,.ref 9000 0 0)],[],hwB 9000 9001 9002 9003 9004 s.1 s.2.1 s.2.2,[⟨[(0,.ref 9000 0 0),(1,.osl 9001 0 2)],[]⟩]⟩) ?_ ?_
  · exact leX []
  · clear h;intro s y g hy;(conv=>whnf);refine Qe tOk ?_;(conv=>whnf);refine Qu g (fun _ g=>?_) (fun _ g=>?_)
    · (conv=>whnf);obtain ⟨z,hz,g⟩:=Qa g;obtain rfl:=sj_ g;refine cE [(5002,6002),(5003,6003),(5004,6004)] 0 (QeW hz) ?_;(conv=>whnf);exact ⟨_,rfl,leX [.s [(6002,9002),(9002,6002),(6003,9003),(9003,6003),(6004,9004),(9004,6004)]]⟩
    · (conv=>whnf);obtain rfl:=sj_ g;obtain rfl:=hy _ rfl;exact lfE [.s [(9002,5002),(5002,9002),(9003,5003),(5003,9003),(9004,5004),(5004,9004)]]
noncomputable def QeC (s0 s1:Qv6) (x:Qv7):Option Bool:=Qk [s0,s1] x
theorem QkH {s0 s1:Qv6} {rd:List Qv7} {x:Qv7} {r:Bool} (h:QeC s0 s1 x=some r):PureC Tryz.prog 28 [.rp [.sl 2 (QmC 23 (Qv6.enc s0 ++ Qv6.enc s1)),slD Qv7.enc rd],.agg (hwC x)] (.d (.bool r)) []:=by
  have h2:ZF ⟨[s0,s1],rd⟩ x=some r:=by
    unfold ZF;rw [show Qk [s0,s1] x=some r from h];rfl
  exact PureC.le (vs:=[.rp [slD Qv6.enc [s0,s1],slD Qv7.enc rd],.agg (hwC x)]) (And.intro (VLe.rpL (And.intro (VLe.rows (by kernel_rfl) (Qtf (by kernel_rfl) (by kernel_rfl))) (And.intro (VLe.refl _) trivial))) (And.intro (VLe.refl _) trivial)) (QcG h2)
@[reducible] def hwP:Nat × Blk:=(9005,.box 78 [.ref 9000 0 0])
noncomputable def QgR (s0 s1:Qv6) (x:Qv7):Option Bool:=bd (QeC s0 s1 x) fun b=>some (!b)
theorem QqA {s0 s1:Qv6} {rd:List Qv7} {x:Qv7} {r:Bool} (h:QgR s0 s1 x=some r):EffC Tryz.prog 64 [.agg (hwC x),.ref 9005 0 0] (hwP :: hwB 9000 9001 9002 9003 9004 s0 s1 rd) (.d (.bool r)) (hwP :: hwB 9000 9001 9002 9003 9004 s0 s1 rd):=by
  refine QQ tOk (fn:=Tryz.f64) (c:=Qj Tryz.f64) rfl rfl ?_;unfold QgR at h;(conv=>whnf);obtain ⟨b,hb,h⟩:=Qa h;obtain rfl:=sj_ h;refine cC 0 (QkH (rd:=rd) hb) ?_;(conv=>whnf);exact lfE []
end Go.Proofs.YtjgjdobkahdgfaaGreat
