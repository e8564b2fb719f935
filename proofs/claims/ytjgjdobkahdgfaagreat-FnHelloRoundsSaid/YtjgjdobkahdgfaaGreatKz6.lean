/-
  What some of the program's functions compute: their models, and that the functions compute these; no condition.
-/
import Derived.Test.YtjgjdobkahdgfaaGreatTyz
import Derived.Test.YtjgjdobkahdgfaaGreatTbz
import Derived.Test.YtjgjdobkahdgfaaGreatAbz7
import Derived.Test.YtjgjdobkahdgfaaGreatKz5
set_option linter.all false
namespace Go.Proofs.YtjgjdobkahdgfaaGreat
open Go Go.Ab
set_option maxRecDepth 100000
set_option maxHeartbeats 40000000
noncomputable def Qhp (s0 s1:Qv6) (rd:List Qv7):Option Int :=
 bd (lp (σ:=Int) (β:=Int ⊕ Unit) (fun s =>
(if (decide (s<((rd.length:Nat):Int)))=true then
 gd ((0:Int)≤s∧s<((rd.length:Nat):Int)) <|
 bd (QgR s0 s1 (rd.getD s.toNat default)) fun x6 =>
(if x6=true then
 some (.inr (.inl s))
else
 some (.inl (IntKind.i64.wrap (s+1))))
else
 some (.inr (.inr ())))) 0) fun x4 =>
(match x4 with
| .inl d7=>some d7
| .inr _=>some (-1))
theorem Qsf {s0 s1:Qv6} {rd:List Qv7} {r:Int} (h:Qhp s0 s1 rd=some r):EffC Tryz.prog 100 [.osl 9002 0 rd.length,.fn 64 [.ref 9005 0 0]] (hwP :: hwB 9000 9001 9002 9003 9004 s0 s1 rd) (.d (.int .i64 r)) (hwP :: hwB 9000 9001 9002 9003 9004 s0 s1 rd):=by
  refine QQ tOk (fn:=Tryz.f100) (c:=Qj Tryz.f100) rfl rfl ?_;unfold Qhp at h;(conv=>whnf);refine Qe tOk ?_;(conv=>whnf);obtain ⟨x4,hx4,h⟩:=Qa h;refine Zh tOk hx4 (fun s=>⟨0,Tryz.f100.ntmps,[(0,.osl 9002 0 rd.length),(1,.fn 64 [.ref 9005 0 0]),(7,.d (.int .i64 ((rd.length:Nat):Int))),(8,.d (.int .i64 s))],[],hwP :: hwB 9000 9001 9002 9003 9004 s0 s1 rd,[⟨Qkx 0 (hwP :: hwB 9000 9001 9002 9003 9004 s0 s1 rd),[]⟩]⟩) ?_ ?_
  · exact leX []
  · clear hx4;intro s y g hy;(conv=>whnf);refine Qe tOk ?_;(conv=>whnf);refine Qu g (fun _ g=>?_) (fun _ g=>?_)
    · (conv=>whnf);refine Qe tOk ?_;(conv=>whnf);refine gdI g (fun g=>?_);(conv=>whnf);obtain ⟨x6,hx6,g⟩:=Qa g;refine cE [] 0 (QqA (rd:=rd) hx6) ?_;(conv=>whnf);refine Qu g (fun _ g=>?_) (fun _ g=>?_)
      · (conv=>whnf);obtain rfl:=sj_ g;obtain rfl:=hy _ rfl;obtain rfl:=sj_ h;exact lfE []
      · (conv=>whnf);obtain rfl:=sj_ g;exact ⟨_,rfl,leX []⟩
    · (conv=>whnf);obtain rfl:=sj_ g;obtain rfl:=hy _ rfl;obtain rfl:=sj_ h;exact lfE []
noncomputable def Qf9 (s0 s1:Qv6) (rd:List Qv7):Option (List Qv7) :=
 bd (Qhp s0 s1 rd) fun x1 =>
(if (x1 == (-1))=true then
 some rd
else
 bd (lp (σ:=List Qv7 × Int × Int) (β:=Nat × Int × List Qv7) (fun s2 =>
(if (decide (s2.2.2<((s2.1.length:Nat):Int)))=true then
 gd ((0:Int)≤s2.2.2∧s2.2.2<((s2.1.length:Nat):Int)) <|
 bd (QgR s0 s1 (s2.1.getD s2.2.2.toNat default)) fun x7 =>
(if (!x7)=true then
 gd ((0:Int)≤s2.2.1∧s2.2.1<((s2.1.length:Nat):Int)) <|
 bd (some (s2.1.set s2.2.1.toNat (s2.1.getD s2.2.2.toNat default))) fun x9 =>
 some (.inl (x9,IntKind.i64.wrap (s2.2.1+1),IntKind.i64.wrap (s2.2.2+1)))
else
 some (.inl (s2.1,s2.2.1,IntKind.i64.wrap (s2.2.2+1))))
else
 some (.inr (s2.1.length,s2.2.1,s2.1)))) (rd,x1,IntKind.i64.wrap (x1+1))) fun x5 =>
 gd ((0:Int)≤x5.2.1∧x5.2.1≤((x5.1:Nat):Int)∧((x5.1:Nat):Int)≤((x5.1:Nat):Int)) <|
 gd ((0:Int)≤(0:Int)∧(0:Int)≤x5.2.1∧x5.2.1≤((x5.1:Nat):Int)) <|
 some ((Qqz x5.2.2 x5.2.1.toNat (Qc8 ((x5.1:Nat):Int) x5.2.1)).take x5.2.1.toNat))
theorem Qoz {s0 s1:Qv6} {rd r:List Qv7} (h:Qf9 s0 s1 rd=some r):EffC Tryz.prog 63 [.osl 9002 0 rd.length,.fn 64 [.ref 9005 0 0]] (hwP :: hwB 9000 9001 9002 9003 9004 s0 s1 rd) (.osl 5002 0 r.length) [hwP,(9000,.box 26 [.osl 9001 0 2,.any]),(9001,hwS 9003 9004 s0 s1),(5002,hwR r),(9003,heA s0.End),(9004,heA s1.End)]:=by
  refine QQ tOk (fn:=Tryz.f63) (c:=Qj Tryz.f63) rfl rfl ?_;unfold Qf9 at h;(conv=>whnf);obtain ⟨x1,hx1,h⟩:=Qa h;refine cE [] 0 (Qsf (rd:=rd) hx1) ?_;(conv=>whnf);refine Qe tOk ?_;(conv=>whnf);refine Qu h (fun _ h=>?_) (fun _ h=>?_)
  · (conv=>whnf);obtain rfl:=sj_ h;exact lfE [.s [(5002,9002),(9002,5002)]]
  · (conv=>whnf);refine Qe tOk ?_;(conv=>whnf);obtain ⟨x5,hx5,h⟩:=Qa h;refine Zh tOk hx5 (fun s2=>⟨0,Tryz.f63.ntmps,[(0,.osl 9002 0 s2.1.length),(1,.fn 64 [.ref 9005 0 0]),(5,.d (.int .i64 s2.2.1)),(6,.d (.int .i64 s2.2.2))],[],hwP :: hwB 9000 9001 9002 9003 9004 s0 s1 s2.1,[⟨Qkx 0 (hwP :: hwB 9000 9001 9002 9003 9004 s0 s1 rd),[]⟩]⟩) ?_ ?_
    · exact leX []
    · clear hx5;intro s2 y3 g4 hy3;(conv=>whnf);refine Qe tOk ?_;(conv=>whnf);refine Qu g4 (fun _ g4=>?_) (fun _ g4=>?_)
      · (conv=>whnf);refine Qe tOk ?_;(conv=>whnf);refine gdI g4 (fun g4=>?_);(conv=>whnf);obtain ⟨x7,hx7,g4⟩:=Qa g4;refine cE [] 0 (QqA (rd:=s2.1) hx7) ?_;(conv=>whnf);refine Qu g4 (fun _ g4=>?_) (fun _ g4=>?_)
        · (conv=>whnf);refine gdI g4 (fun g4=>?_);(conv=>whnf);obtain ⟨x9,hx9,hlx9,g4⟩:=QgC g4;refine Qr8 (enc:=Qv7.enc) hx9 ?_;(conv=>whnf);obtain rfl:=sj_ g4;exact ⟨_,rfl,leX []⟩
        · (conv=>whnf);obtain rfl:=sj_ g4;exact ⟨_,rfl,leX []⟩
      · (conv=>whnf);obtain rfl:=sj_ g4;obtain rfl:=hy3 _ rfl;dsimp only at h;obtain ⟨g11,h⟩:=Qg h;refine And.intro g11 ?_;(conv=>whnf);refine ⟨rows Qv7.enc (Qqz (s2.1.length,s2.2.1,s2.1).2.2 (s2.1.length,s2.2.1,s2.1).2.1.toNat (Qc8 (((s2.1.length,s2.2.1,s2.1).1:Nat):Int) (s2.1.length,s2.2.1,s2.1).2.1)),Qox Qjk rfl,?_⟩;(conv=>whnf);obtain ⟨g12,h⟩:=Qg h;refine And.intro g12 ?_;(conv=>whnf);obtain rfl:=sj_ h;exact lfE [.c 4,.s [(5002,9002),(9002,5002)]]
@[reducible] def Qhq (e r:Qv5):Qv5:={ r with Name:=e.Name,Peer:=e.Peer,Keys:=e.Keys,Want:=e.Want,PeerBoot:=e.PeerBoot,PeerTurn:=e.PeerTurn }
noncomputable def QbK (s0 s1:Qv6) (rd:List Qv7) (kind:Int) (want:List Qv2) (keys:List Qv1):Option (Qv6 × Qv6 × List Qv7) :=
(if ((kind == 1) && s0.Up)=true then
 bd (JG s0.End) fun x =>
(if x.2.1=true then
 bd (Qeb rd x.1) fun y=>some (⟨s0.Up,Qhq s0.End x.2.2⟩,s1,y)
else
 some (⟨s0.Up,Qhq s0.End x.2.2⟩,s1,rd))
else
(if ((kind == 5) && s0.Up)=true then
 bd (Z1 s0.End) fun x=>some (⟨s0.Up,Qhq s0.End x⟩,s1,rd)
else
(if (kind == 6)=true then
 bd (QbY s0.End) fun x=>some (⟨false,x⟩,s1,rd)
else
(if ((kind == 7) && (!s0.Up))=true then
 bd (Q9 s0.End) fun x=>some (⟨true,Qhq s0.End x⟩,s1,rd)
else
 bd (gcall ((kind == 8)=true) (Zs want)) fun t =>
(if ((kind == 8) && t)=true then
 bd (QF want) fun x=>some (⟨s0.Up,{ s0.End with Want:=x }⟩,s1,rd)
else
 bd (gcall ((kind == 9)=true) (Z3 keys)) fun t2 =>
(if ((kind == 9) && t2)=true then
 bd (Qf9 s0 s1 rd) fun y =>
 bd (Zp keys) fun x=>some (⟨s0.Up,{ s0.End with Keys:=x }⟩,s1,y)
else
 some (s0,s1,rd)))))))
theorem QfF {s0 s1:Qv6} {rd:List Qv7} {kind:Int} {want:List Qv2} {keys:List Qv1} {x0:Qv7} {r:Qv6 × Qv6 × List Qv7} (h:QbK s0 s1 rd kind want keys=some r):EffC Tryz.prog 30 [.ref 9000 0 0,.agg (.d (.int .i64 kind) :: .d (.int .i64 0) :: .d (slD Qv2.enc want) :: .d (slD Qv1.enc keys) :: hwC x0)] (hwB 9000 9001 9002 9003 9004 s0 s1 rd) (.tup []) (hwB 9000 9001 5002 5003 5004 r.1 r.2.1 r.2.2):=by
  refine QQ tOk (fn:=Tryz.f30) (c:=Qj Tryz.f30) rfl rfl ?_;unfold QbK at h;have hx1:Qw 0 0 (IntKind.i64.wrap (((2:Nat):Int) - 1))=some true:=by kernel_rfl
  (conv=>whnf);refine Qe tOk ?_;(conv=>whnf);refine QP tOk [.u 8 0 (.d (.bool true)) []] 10 [] [0,1,0,4,12,28,60,124,255,511] [] ?_;(conv=>whnf);refine And.intro ⟨⟨Tryz.f49,rfl,by kernel_rfl,by kernel_rfl⟩,⟨_,rfl,Qz hx1⟩⟩ ?_;(conv=>whnf);refine And.intro (by kernel_rfl) ?_;(conv=>whnf);refine ⟨fun h0=>(by cases h0),fun _=>?_⟩;(conv=>whnf);refine QP tOk [] 7 [] [0,1,3,7,0,16,63] [127] ?_;(conv=>whnf);refine And.intro ⟨by decide,by decide⟩ ?_;(conv=>whnf);refine And.intro (by kernel_rfl) ?_;(conv=>whnf);refine Qu h (fun _ h=>?_) (fun _ h=>?_)
  · (conv=>whnf);obtain ⟨x,hx,h⟩:=Qa h;refine cE [(9002,9001),(9001,9003),(9003,9004),(5001,6003)] 0 (Qte 9002 2000038 [.d (.bool s0.Up)] (hsC s1 (.osl 9003 0 s1.End.Heard.length)) [(9003,heA s1.End)] (QdR hx)) ?_;(conv=>whnf);refine Qu h (fun _ h=>?_) (fun _ h=>?_)
    · (conv=>whnf);obtain ⟨y,hy,h⟩:=Qa h;obtain rfl:=sj_ h;refine cE [(9003,6003),(9004,9004),(5002,6002)] 0 (QiZ (s0:=⟨s0.Up,Qhq s0.End x.2.2⟩) (s1:=s1) hy) ?_;(conv=>whnf);exact lfE [.s [(6003,5003),(5003,6003),(9004,5004),(5004,9004),(6002,5002),(5002,6002)]]
    · (conv=>whnf);obtain rfl:=sj_ h;exact lfE [.s [(6003,5003),(5003,6003),(9004,5004),(5004,9004),(9002,5002),(5002,9002)]]
  · (conv=>whnf);refine Qu h (fun _ h=>?_) (fun _ h=>?_)
    · (conv=>whnf);obtain ⟨x,hx,h⟩:=Qa h;obtain rfl:=sj_ h;refine cE [(9002,9001),(9001,9003),(9003,9004),(5001,6003)] 0 (Qte 9002 2000038 [.d (.bool s0.Up)] (hsC s1 (.osl 9003 0 s1.End.Heard.length)) [(9003,heA s1.End)] (Qdy hx)) ?_;(conv=>whnf);exact lfE [.s [(6003,5003),(5003,6003),(9004,5004),(5004,9004),(9002,5002),(5002,9002)]]
    · (conv=>whnf);refine Qu h (fun _ h=>?_) (fun _ h=>?_)
      · (conv=>whnf);obtain ⟨x,hx,h⟩:=Qa h;obtain rfl:=sj_ h;refine cC 6000 (Qhn hx) ?_;(conv=>whnf);exact lfE [.f [11001,11002,11003],.s [(11004,5003),(5003,11004),(9004,5004),(5004,9004),(9002,5002),(5002,9002)]]
      · (conv=>whnf);refine Qu h (fun _ h=>?_) (fun _ h=>?_)
        · (conv=>whnf);obtain ⟨x,hx,h⟩:=Qa h;obtain rfl:=sj_ h;refine cE [(9002,9001),(9001,9003),(9003,9004),(5001,6003)] 0 (Qte 9002 2000038 [.d (.bool true)] (hsC s1 (.osl 9003 0 s1.End.Heard.length)) [(9003,heA s1.End)] (J2 hx)) ?_;(conv=>whnf);exact lfE [.s [(6003,5003),(5003,6003),(9004,5004),(5004,9004),(9002,5002),(5002,9002)]]
        · (conv=>whnf);obtain ⟨t,ht,h⟩:=Qa h;refine cG (fun c0=>Qar (Qf ht c0)) ?_;(conv=>whnf);refine Qu h (fun _ h=>?_) (fun _ h=>?_)
          · (conv=>whnf);obtain ⟨x,hx,h⟩:=Qa h;obtain rfl:=sj_ h;refine cC 6000 (Zt hx) ?_;(conv=>whnf);exact lfE [.f [11001],.s [(9003,5003),(5003,9003),(9004,5004),(5004,9004),(9002,5002),(5002,9002)]]
          · (conv=>whnf);obtain ⟨t2,ht2,h⟩:=Qa h;refine cG (fun c0=>Qbu (Qf ht2 c0)) ?_;(conv=>whnf);refine Qu h (fun _ h=>?_) (fun _ h=>?_)
            · (conv=>whnf);obtain ⟨y,hy,h⟩:=Qa h;obtain ⟨x,hx,h⟩:=Qa h;obtain rfl:=sj_ h;refine JA tOk [.l 0 [(2,.box 78 [.ref 9000 0 0])] (.ref 9000 0 0),.l 1 [(2,.box 78 [.ref 9000 0 0])] (.ref 9000 0 0),.l 4 [(9000,.box 26 [.osl 9001 0 2,.osl 9002 0 rd.length])] (.osl 9002 0 rd.length),.x 6 [(2,.box 78 [.ref 9000 0 0]),(9000,.box 26 [.osl 9001 0 2,.osl 9002 0 rd.length]),(9001,hwS 9003 9004 s0 s1),(9002,hwR rd),(9003,heA s0.End),(9004,heA s1.End)] (.osl 6002 0 y.length) [] [(6002,hwR y),(2,.box 78 [.ref 9000 0 0]),(9000,.box 26 [.osl 9001 0 2,.any]),(9001,hwS 9003 9004 s0 s1),(9003,heA s0.End),(9004,heA s1.End)] [2]] 7 [] [0,0,2,6,14,0,62] [127,255,511] [2,9000,9001,9002,9003,9004] ?_;(conv=>whnf);refine And.intro (by (conv=>whnf); exact ⟨by kernel_rfl,by kernel_rfl⟩) ?_;(conv=>whnf);refine And.intro (by (conv=>whnf); exact ⟨by kernel_rfl,by kernel_rfl⟩) ?_;(conv=>whnf);refine And.intro (by (conv=>whnf); exact ⟨by kernel_rfl,by kernel_rfl⟩) ?_;(conv=>whnf);refine And.intro (eH [(9005,2),(5002,6002)] 0 (Qoz hy)) ?_;(conv=>whnf);refine And.intro (by kernel_rfl) ?_;(conv=>whnf);refine cC 6000 (QaE hx) ?_;(conv=>whnf);exact lfE [.f [11001],.s [(9003,5003),(5003,9003),(9004,5004),(5004,9004),(6002,5002),(5002,6002)]]
            · (conv=>whnf);obtain rfl:=sj_ h;exact lfE [.s [(9003,5003),(5003,9003),(9004,5004),(5004,9004),(9002,5002),(5002,9002)]]
noncomputable def QbL (s0 s1:Qv6) (rd:List Qv7) (kind:Int) (want:List Qv2) (keys:List Qv1):Option (Qv6 × Qv6 × List Qv7) :=
(if ((kind == 1) && s1.Up)=true then
 bd (JG s1.End) fun x =>
(if x.2.1=true then
 bd (Qeb rd x.1) fun y=>some (s0,⟨s1.Up,Qhq s1.End x.2.2⟩,y)
else
 some (s0,⟨s1.Up,Qhq s1.End x.2.2⟩,rd))
else
(if ((kind == 5) && s1.Up)=true then
 bd (Z1 s1.End) fun x=>some (s0,⟨s1.Up,Qhq s1.End x⟩,rd)
else
(if (kind == 6)=true then
 bd (QbY s1.End) fun x=>some (s0,⟨false,x⟩,rd)
else
(if ((kind == 7) && (!s1.Up))=true then
 bd (Q9 s1.End) fun x=>some (s0,⟨true,Qhq s1.End x⟩,rd)
else
 bd (gcall ((kind == 8)=true) (Zs want)) fun t =>
(if ((kind == 8) && t)=true then
 bd (QF want) fun x=>some (s0,⟨s1.Up,{ s1.End with Want:=x }⟩,rd)
else
 bd (gcall ((kind == 9)=true) (Z3 keys)) fun t2 =>
(if ((kind == 9) && t2)=true then
 bd (Qf9 s0 s1 rd) fun y =>
 bd (Zp keys) fun x=>some (s0,⟨s1.Up,{ s1.End with Keys:=x }⟩,y)
else
 some (s0,s1,rd)))))))
theorem QfG {s0 s1:Qv6} {rd:List Qv7} {kind:Int} {want:List Qv2} {keys:List Qv1} {x0:Qv7} {r:Qv6 × Qv6 × List Qv7} (h:QbL s0 s1 rd kind want keys=some r):EffC Tryz.prog 30 [.ref 9000 0 0,.agg (.d (.int .i64 kind) :: .d (.int .i64 1) :: .d (slD Qv2.enc want) :: .d (slD Qv1.enc keys) :: hwC x0)] (hwB 9000 9001 9002 9003 9004 s0 s1 rd) (.tup []) (hwB 9000 9001 5002 5003 5004 r.1 r.2.1 r.2.2):=by
  refine QQ tOk (fn:=Tryz.f30) (c:=Qj Tryz.f30) rfl rfl ?_;unfold QbL at h;have hx1:Qw 1 0 (IntKind.i64.wrap (((2:Nat):Int) - 1))=some true:=by kernel_rfl
  (conv=>whnf);refine Qe tOk ?_;(conv=>whnf);refine QP tOk [.u 8 0 (.d (.bool true)) []] 10 [] [0,1,0,4,12,28,60,124,255,511] [] ?_;(conv=>whnf);refine And.intro ⟨⟨Tryz.f49,rfl,by kernel_rfl,by kernel_rfl⟩,⟨_,rfl,Qz hx1⟩⟩ ?_;(conv=>whnf);refine And.intro (by kernel_rfl) ?_;(conv=>whnf);refine ⟨fun h0=>(by cases h0),fun _=>?_⟩;(conv=>whnf);refine QP tOk [] 7 [] [0,1,3,7,0,16,63] [127] ?_;(conv=>whnf);refine And.intro ⟨by decide,by decide⟩ ?_;(conv=>whnf);refine And.intro (by kernel_rfl) ?_;(conv=>whnf);refine Qu h (fun _ h=>?_) (fun _ h=>?_)
  · (conv=>whnf);obtain ⟨x,hx,h⟩:=Qa h;refine cE [(9002,9001),(9001,9004),(9003,9003),(5001,6003)] 0 (Qte 9002 2000038 (hsC s0 (.osl 9003 0 s0.End.Heard.length) ++ [.d (.bool s1.Up)]) [] [(9003,heA s0.End)] (QdR hx)) ?_;(conv=>whnf);refine Qu h (fun _ h=>?_) (fun _ h=>?_)
    · (conv=>whnf);obtain ⟨y,hy,h⟩:=Qa h;obtain rfl:=sj_ h;refine cE [(9003,9003),(9004,6003),(5002,6002)] 0 (QiZ (s0:=s0) (s1:=⟨s1.Up,Qhq s1.End x.2.2⟩) hy) ?_;(conv=>whnf);exact lfE [.s [(6003,5004),(5004,6003),(9003,5003),(5003,9003),(6002,5002),(5002,6002)]]
    · (conv=>whnf);obtain rfl:=sj_ h;exact lfE [.s [(6003,5004),(5004,6003),(9003,5003),(5003,9003),(9002,5002),(5002,9002)]]
  · (conv=>whnf);refine Qu h (fun _ h=>?_) (fun _ h=>?_)
    · (conv=>whnf);obtain ⟨x,hx,h⟩:=Qa h;obtain rfl:=sj_ h;refine cE [(9002,9001),(9001,9004),(9003,9003),(5001,6003)] 0 (Qte 9002 2000038 (hsC s0 (.osl 9003 0 s0.End.Heard.length) ++ [.d (.bool s1.Up)]) [] [(9003,heA s0.End)] (Qdy hx)) ?_;(conv=>whnf);exact lfE [.s [(6003,5004),(5004,6003),(9003,5003),(5003,9003),(9002,5002),(5002,9002)]]
    · (conv=>whnf);refine Qu h (fun _ h=>?_) (fun _ h=>?_)
      · (conv=>whnf);obtain ⟨x,hx,h⟩:=Qa h;obtain rfl:=sj_ h;refine cC 6000 (Qhn hx) ?_;(conv=>whnf);exact lfE [.f [11001,11002,11003],.s [(11004,5004),(5004,11004),(9003,5003),(5003,9003),(9002,5002),(5002,9002)]]
      · (conv=>whnf);refine Qu h (fun _ h=>?_) (fun _ h=>?_)
        · (conv=>whnf);obtain ⟨x,hx,h⟩:=Qa h;obtain rfl:=sj_ h;refine cE [(9002,9001),(9001,9004),(9003,9003),(5001,6003)] 0 (Qte 9002 2000038 (hsC s0 (.osl 9003 0 s0.End.Heard.length) ++ [.d (.bool true)]) [] [(9003,heA s0.End)] (J2 hx)) ?_;(conv=>whnf);exact lfE [.s [(6003,5004),(5004,6003),(9003,5003),(5003,9003),(9002,5002),(5002,9002)]]
        · (conv=>whnf);obtain ⟨t,ht,h⟩:=Qa h;refine cG (fun c0=>Qar (Qf ht c0)) ?_;(conv=>whnf);refine Qu h (fun _ h=>?_) (fun _ h=>?_)
          · (conv=>whnf);obtain ⟨x,hx,h⟩:=Qa h;obtain rfl:=sj_ h;refine cC 6000 (Zt hx) ?_;(conv=>whnf);exact lfE [.f [11001],.s [(9004,5004),(5004,9004),(9003,5003),(5003,9003),(9002,5002),(5002,9002)]]
          · (conv=>whnf);obtain ⟨t2,ht2,h⟩:=Qa h;refine cG (fun c0=>Qbu (Qf ht2 c0)) ?_;(conv=>whnf);refine Qu h (fun _ h=>?_) (fun _ h=>?_)
            · (conv=>whnf);obtain ⟨y,hy,h⟩:=Qa h;obtain ⟨x,hx,h⟩:=Qa h;obtain rfl:=sj_ h;refine JA tOk [.l 0 [(2,.box 78 [.ref 9000 0 0])] (.ref 9000 0 0),.l 1 [(2,.box 78 [.ref 9000 0 0])] (.ref 9000 0 0),.l 4 [(9000,.box 26 [.osl 9001 0 2,.osl 9002 0 rd.length])] (.osl 9002 0 rd.length),.x 6 [(2,.box 78 [.ref 9000 0 0]),(9000,.box 26 [.osl 9001 0 2,.osl 9002 0 rd.length]),(9001,hwS 9003 9004 s0 s1),(9002,hwR rd),(9003,heA s0.End),(9004,heA s1.End)] (.osl 6002 0 y.length) [] [(6002,hwR y),(2,.box 78 [.ref 9000 0 0]),(9000,.box 26 [.osl 9001 0 2,.any]),(9001,hwS 9003 9004 s0 s1),(9003,heA s0.End),(9004,heA s1.End)] [2]] 7 [] [0,0,2,6,14,0,62] [127,255,511] [2,9000,9001,9002,9003,9004] ?_;(conv=>whnf);refine And.intro (by (conv=>whnf); exact ⟨by kernel_rfl,by kernel_rfl⟩) ?_;(conv=>whnf);refine And.intro (by (conv=>whnf); exact ⟨by kernel_rfl,by kernel_rfl⟩) ?_;(conv=>whnf);refine And.intro (by (conv=>whnf); exact ⟨by kernel_rfl,by kernel_rfl⟩) ?_;(conv=>whnf);refine And.intro (eH [(9005,2),(5002,6002)] 0 (Qoz hy)) ?_;(conv=>whnf);refine And.intro (by kernel_rfl) ?_;(conv=>whnf);refine cC 6000 (QaE hx) ?_;(conv=>whnf);exact lfE [.f [11001],.s [(9004,5004),(5004,9004),(9003,5003),(5003,9003),(6002,5002),(5002,6002)]]
            · (conv=>whnf);obtain rfl:=sj_ h;exact lfE [.s [(9004,5004),(5004,9004),(9003,5003),(5003,9003),(9002,5002),(5002,9002)]]
theorem QmD {s0 s1:Qv6} {rd:List Qv7} {kind at_:Int} {want:List Qv2} {keys:List Qv1} {x0:Qv7} (hx1:Qw at_ 0 (IntKind.i64.wrap (((2:Nat):Int) - 1))=some false):EffC Tryz.prog 30 [.ref 9000 0 0,.agg (.d (.int .i64 kind) :: .d (.int .i64 at_) :: .d (slD Qv2.enc want) :: .d (slD Qv1.enc keys) :: hwC x0)] (hwB 9000 9001 9002 9003 9004 s0 s1 rd) (.tup []) (hwB 9000 9001 9002 9003 9004 s0 s1 rd):=by
  refine QQ tOk (fn:=Tryz.f30) (c:=Qj Tryz.f30) rfl rfl ?_;(conv=>whnf);refine Qe tOk ?_;(conv=>whnf);refine QP tOk [.u 8 0 (.d (.bool false)) []] 10 [] [0,1,0,4,12,28,60,124,255,511] [] ?_;(conv=>whnf);refine And.intro ⟨⟨Tryz.f49,rfl,by kernel_rfl,by kernel_rfl⟩,⟨_,rfl,Qz hx1⟩⟩ ?_;(conv=>whnf);refine And.intro (by kernel_rfl) ?_;(conv=>whnf);refine ⟨fun _=>?_,fun h0=>by cases h0⟩;(conv=>whnf);exact lfE []
noncomputable def Qhr (p q:Qv6) (rd:List Qv7) (kind at_:Int) (want:List Qv2) (keys:List Qv1) (word:Qv7):Option (Qv6 × Qv6 × List Qv7) :=
 bd (QeA p q rd) fun c =>
(if (kind == 2)=true then
 Qa4 c.1 c.2.1 c.2.2 kind at_
else
(if (kind == 3)=true then
 Qa4 c.1 c.2.1 c.2.2 kind at_
else
(if (kind == 4)=true then
 Qa4 c.1 c.2.1 c.2.2 kind at_
else
(if (kind == 10)=true then
 bd (Jn word) fun b =>
 bd (gcall (b=true) (QeC c.1 c.2.1 word)) fun b2 =>
(if (b && (!b2))=true then
 bd (Qeb c.2.2 word) fun y=>some (c.1,c.2.1,y)
else
 some c)
else
(if (at_ == 0)=true then
 QbK c.1 c.2.1 c.2.2 kind want keys
else
(if (at_ == 1)=true then
 QbL c.1 c.2.1 c.2.2 kind want keys
else
 bd (Qw at_ 0 (IntKind.i64.wrap (((2:Nat):Int) - 1))) fun b =>
(if b=true then none else some c)))))))
theorem QqB {p q:Qv6} {rd:List Qv7} {kind at_:Int} {want:List Qv2} {keys:List Qv1} {word:Qv7} {r:Qv6 × Qv6 × List Qv7} (h0:QI ⟨[p,q],rd⟩=some true) (h:Qhr p q rd kind at_ want keys word=some r):EffC Tryz.prog 9 [.agg [.d (slD Qv6.enc [p,q]),.d (slD Qv7.enc rd)],.agg (.d (.int .i64 kind) :: .d (.int .i64 at_) :: .d (slD Qv2.enc want) :: .d (slD Qv1.enc keys) :: hwC word)] [] (.agg [.d (slD Qv6.enc [r.1,r.2.1]),.d (slD Qv7.enc r.2.2)]) []:=by
  refine QQ tOk (fn:=Tryz.f9) (c:=Qj Tryz.f9) rfl rfl ?_;unfold Qhr at h;(conv=>whnf);refine Qe tOk ?_;(conv=>whnf);refine cC 0 (JF h0) ?_;(conv=>whnf);refine ⟨fun h0=>(by cases h0),fun _=>?_⟩;(conv=>whnf);obtain ⟨c,hc,h⟩:=Qa h;refine cE [(5001,6001),(5002,6002),(5003,6003),(5004,6004)] 0 (QmB hc) ?_;(conv=>whnf);refine Qe tOk ?_;(conv=>whnf);refine Qe tOk ?_;(conv=>whnf);refine Qu h (fun hk h=>?_) (fun hk h=>?_)
  · (conv=>whnf);refine ⟨fun _=>?_,fun h1=>by rw [hk] at h1; cases h1⟩;(conv=>whnf);refine cE [(9000,5),(9001,6001),(9002,6002),(9003,6003),(9004,6004),(5002,7002),(5003,7003),(5004,7004)] 0 (QeW h) ?_;(conv=>whnf);exact lfE [.f [7003,7004,7002,6001]]
  · (conv=>whnf);refine Qu h (fun hk h=>?_) (fun hk h=>?_)
    · (conv=>whnf);refine ⟨fun _=>?_,fun h1=>by rw [hk] at h1; cases h1⟩;(conv=>whnf);refine cE [(9000,5),(9001,6001),(9002,6002),(9003,6003),(9004,6004),(5002,7002),(5003,7003),(5004,7004)] 0 (QeW h) ?_;(conv=>whnf);exact lfE [.f [7003,7004,7002,6001]]
    · (conv=>whnf);refine spI h (fun hk h=>?_) (fun hk h=>?_)
      · refine ⟨fun _=>?_,fun h1=>by rw [hk] at h1; cases h1⟩;(conv=>whnf);refine cE [(9000,5),(9001,6001),(9002,6002),(9003,6003),(9004,6004),(5002,7002),(5003,7003),(5004,7004)] 0 (QeW h) ?_;(conv=>whnf);exact lfE [.f [7003,7004,7002,6001]]
      · refine ⟨fun h1=>(by rw [hk] at h1; cases h1),fun _=>?_⟩;(conv=>whnf);refine Qu h (fun hk2 h=>?_) (fun hk2 h=>?_)
        · (conv=>whnf);obtain ⟨b,hb,h⟩:=Qa h;refine cC 0 (QcE hb) ?_;(conv=>whnf);obtain ⟨b2,hb2,h⟩:=Qa h;refine cG (fun c0=>QkH (rd:=c.2.2) (Qf hb2 c0)) ?_;(conv=>whnf);refine Qu h (fun _ h=>?_) (fun _ h=>?_)
          · (conv=>whnf);obtain ⟨y,hy,h⟩:=Qa h;obtain rfl:=sj_ h;refine cE [(9000,5),(9001,6001),(9002,6002),(9003,6003),(9004,6004),(5002,7002)] 0 (QiZ (s0:=c.1) (s1:=c.2.1) hy) ?_;(conv=>whnf);exact lfE [.f [6003,6004,7002,6001]]
          · (conv=>whnf);obtain rfl:=sj_ h;exact lfE [.f [6003,6004,6002,6001]]
        · (conv=>whnf);refine spI h (fun hz h=>?_) (fun hz h=>?_)
          · obtain rfl:at_=0:=by simpa using hz
            refine cE [(9000,5),(9001,6001),(9002,6002),(9003,6003),(9004,6004),(5002,7002),(5003,7003),(5004,7004)] 0 (QfF h) ?_;(conv=>whnf);exact lfE [.f [7003,7004,7002,6001]]
          · refine spI h (fun hz h=>?_) (fun hz h=>?_)
            · obtain rfl:at_=1:=by simpa using hz
              refine cE [(9000,5),(9001,6001),(9002,6002),(9003,6003),(9004,6004),(5002,7002),(5003,7003),(5004,7004)] 0 (QfG h) ?_;(conv=>whnf);exact lfE [.f [7003,7004,7002,6001]]
            · obtain ⟨b,hb,h⟩:=Qa h;refine spI h (fun hz h=>by cases h) (fun hz h=>?_);obtain rfl:=sj_ h;subst hz;refine cE [(9000,5),(9001,6001),(9002,6002),(9003,6003),(9004,6004)] 0 (QmD hb) ?_;(conv=>whnf);exact lfE [.f [6003,6004,6002,6001]]
@[reducible] def Qsg (n:Int):Int:=(if 100<(if 0 > n then 0 else n) then 100 else (if 0 > n then 0 else n))
@[reducible] def Qsh:Qv7:=⟨0,0,0,0,0,0,0,0,⟨0,⟨0,0,0,0⟩⟩,0⟩
noncomputable def Qga (s:Qv6 × Qv6 × List Qv7):Option (Qv6 × Qv6 × List Qv7) :=
 bd (QbZ s.1 s.2.1 s.2.2) fun a =>
 bd (QbK a.1 a.2.1 a.2.2 1 [] []) fun b =>
 bd (QbL b.1 b.2.1 b.2.2 1 [] []) fun c =>
 bd (QbZ c.1 c.2.1 c.2.2) fun d =>
 bd (QbK d.1 d.2.1 d.2.2 5 [] []) fun e =>
 QbL e.1 e.2.1 e.2.2 5 [] []
noncomputable def QdS (p q:Qv6) (rd:List Qv7) (n:Int):Option (Qv6 × Qv6 × List Qv7) :=
 bd (QeA p q rd) fun c =>
 lp (σ:=(Qv6 × Qv6 × List Qv7) × Int) (β:=Qv6 × Qv6 × List Qv7) (fun s =>
(if (decide (s.2<Qsg n))=true then
 bd (Qga s.1) fun y=>some (.inl (y,IntKind.i64.wrap (s.2+1)))
else
 some (.inr s.1))) (c,0)
theorem QqC {p q:Qv6} {rd:List Qv7} {n:Int} {r:Qv6 × Qv6 × List Qv7} (h0:QI ⟨[p,q],rd⟩=some true) (h:QdS p q rd n=some r):EffC Tryz.prog 10 [.agg [.d (slD Qv6.enc [p,q]),.d (slD Qv7.enc rd)],.d (.int .i64 n)] [] (.agg [.d (slD Qv6.enc [r.1,r.2.1]),.d (slD Qv7.enc r.2.2)]) []:=by
  refine QQ tOk (fn:=Tryz.f10) (c:=Qj Tryz.f10) rfl rfl ?_;unfold QdS at h;(conv=>whnf);refine Qe tOk ?_;(conv=>whnf);refine cC 0 (JF h0) ?_;(conv=>whnf);refine ⟨fun h0=>(by cases h0),fun _=>?_⟩;(conv=>whnf);obtain ⟨c,hc,h⟩:=Qa h;refine cE [(5001,6001),(5002,6002),(5003,6003),(5004,6004)] 0 (QmB hc) ?_;(conv=>whnf);refine Qe tOk ?_;(conv=>whnf);refine Zh tOk h (fun s=>⟨0,Tryz.f10.ntmps,[(4,.ref 4 0 0),(5,.ref 5 0 0),(16,.d (.int .i64 (Qsg n))),(17,.d (.int .i64 s.2))],[],(4,.box 26 [.d .nil,.d .nil]) :: hwB 5 6001 6002 6003 6004 s.1.1 s.1.2.1 s.1.2.2,[⟨[],[]⟩]⟩) ?_ ?_
  · exact leX []
  · clear h;intro s y g hy;(conv=>whnf);refine Qe tOk ?_;(conv=>whnf);refine Qu g (fun _ g=>?_) (fun _ g=>?_)
    · (conv=>whnf);obtain ⟨z,hz,g⟩:=Qa g;obtain rfl:=sj_ g;unfold Qga at hz;obtain ⟨a1,ha1,hz⟩:=Qa hz;obtain ⟨a2,ha2,hz⟩:=Qa hz;obtain ⟨a3,ha3,hz⟩:=Qa hz;obtain ⟨a4,ha4,hz⟩:=Qa hz;obtain ⟨a5,ha5,hz⟩:=Qa hz;refine Qe tOk ?_;(conv=>whnf);refine cE [(9000,5),(9001,6001),(9002,6002),(9003,6003),(9004,6004),(5002,7002),(5003,7003),(5004,7004)] 0 (Qho ha1) ?_;(conv=>whnf);refine Qe tOk ?_;(conv=>whnf);refine Qoy tOk 3 ?_;(conv=>whnf);refine Qe tOk ?_;(conv=>whnf);refine ⟨fun _=>?_,fun h0=>by cases h0⟩;(conv=>whnf);refine Qe tOk ?_;(conv=>whnf);refine cE [(9000,5),(9001,6001),(9002,7002),(9003,7003),(9004,7004),(5002,8002),(5003,8003),(5004,8004)] 0 (QfF (x0:=Qsh) ha2) ?_;(conv=>whnf);refine Qe tOk ?_;(conv=>whnf);refine ⟨fun _=>?_,fun h0=>by cases h0⟩;(conv=>whnf);refine Qe tOk ?_;(conv=>whnf);refine cE [(9000,5),(9001,6001),(9002,8002),(9003,8003),(9004,8004),(5002,9002),(5003,9003),(5004,9004)] 0 (QfG (x0:=Qsh) ha3) ?_;(conv=>whnf);refine Qe tOk ?_;(conv=>whnf);refine ⟨fun h0=>(by cases h0),fun _=>?_⟩;(conv=>whnf);refine cE [(9000,5),(9001,6001),(9002,9002),(9003,9003),(9004,9004),(5002,10002),(5003,10003),(5004,10004)] 0 (Qho ha4) ?_;(conv=>whnf);refine Qoy tOk 3 ?_;(conv=>whnf);refine Qe tOk ?_;(conv=>whnf);refine ⟨fun _=>?_,fun h0=>by cases h0⟩;(conv=>whnf);refine Qe tOk ?_;(conv=>whnf);refine cE [(9000,5),(9001,6001),(9002,10002),(9003,10003),(9004,10004),(5002,11002),(5003,11003),(5004,11004)] 0 (QfF (x0:=Qsh) ha5) ?_;(conv=>whnf);refine Qe tOk ?_;(conv=>whnf);refine ⟨fun _=>?_,fun h0=>by cases h0⟩;(conv=>whnf);refine Qe tOk ?_;(conv=>whnf);refine cE [(9000,5),(9001,6001),(9002,11002),(9003,11003),(9004,11004),(5002,12002),(5003,12003),(5004,12004)] 0 (QfG (x0:=Qsh) hz) ?_;(conv=>whnf);refine Qe tOk ?_;(conv=>whnf);refine ⟨fun h0=>(by cases h0),fun _=>?_⟩;(conv=>whnf);exact ⟨_,rfl,leX [.s [(12002,6002),(6002,12002),(12003,6003),(6003,12003),(12004,6004),(6004,12004)]]⟩
    · (conv=>whnf);obtain rfl:=sj_ g;obtain rfl:=hy _ rfl;exact lfE [.f [6003,6004,6002,6001]]
noncomputable def Qci (a0:Qv8) (n:Int):Option Qv8 :=
 bd (QI a0) fun b =>
(if (!b)=true then
 some (⟨[],[]⟩:Qv8)
else
(match a0 with
| ⟨[p,q],rd⟩=>bd (QdS p q rd n) fun z=>some (⟨[z.1,z.2.1],z.2.2⟩:Qv8)
| _=>none))
theorem Qky {a0 r:Qv8} {n:Int} (h:Qci a0 n=some r):EffC Tryz.prog 10 [.agg [.d (slD Qv6.enc a0.Sides),.d (slD Qv7.enc a0.Radio)],.d (.int .i64 n)] [] (.agg [.d (slD Qv6.enc r.Sides),.d (slD Qv7.enc r.Radio)]) []:=by
  unfold Qci at h;obtain ⟨b,hb,h⟩:=Qa h;cases b with
  | false =>
    obtain rfl:=sj_ h;refine QQ tOk (fn:=Tryz.f10) (c:=Qj Tryz.f10) rfl rfl ?_;(conv=>whnf);refine Qe tOk ?_;(conv=>whnf);refine cC 0 (JF hb) ?_;(conv=>whnf);refine ⟨fun _=>?_,fun h0=>by cases h0⟩;(conv=>whnf);exact lfE []
  | true =>
    obtain ⟨sides,rd⟩:=a0;cases sides with
    | nil=>cases h
    | cons p l=>cases l with
      | nil=>cases h
      | cons q l=>cases l with
        | cons _ _=>cases h
        | nil =>
          obtain ⟨z,hz,h⟩:=Qa (show bd (QdS p q rd n) (fun z=>some (⟨[z.1,z.2.1],z.2.2⟩:Qv8))=some r from h);obtain rfl:=sj_ h;exact QqC hb hz
noncomputable def QgD (a0:Qv8) (kind at_:Int) (want:List Qv2) (keys:List Qv1) (word:Qv7):Option Qv8 :=
 bd (QI a0) fun b =>
(if (!b)=true then
 some (⟨[],[]⟩:Qv8)
else
(match a0 with
| ⟨[p,q],rd⟩=>bd (Qhr p q rd kind at_ want keys word) fun z=>some (⟨[z.1,z.2.1],z.2.2⟩:Qv8)
| _=>none))
theorem Qr9 {a0 r:Qv8} {kind at_:Int} {want:List Qv2} {keys:List Qv1} {word:Qv7} (h:QgD a0 kind at_ want keys word=some r):EffC Tryz.prog 9 [.agg [.d (slD Qv6.enc a0.Sides),.d (slD Qv7.enc a0.Radio)],.agg (.d (.int .i64 kind) :: .d (.int .i64 at_) :: .d (slD Qv2.enc want) :: .d (slD Qv1.enc keys) :: hwC word)] [] (.agg [.d (slD Qv6.enc r.Sides),.d (slD Qv7.enc r.Radio)]) []:=by
  unfold QgD at h;obtain ⟨b,hb,h⟩:=Qa h;cases b with
  | false =>
    obtain rfl:=sj_ h;refine QQ tOk (fn:=Tryz.f9) (c:=Qj Tryz.f9) rfl rfl ?_;(conv=>whnf);refine Qe tOk ?_;(conv=>whnf);refine cC 0 (JF hb) ?_;(conv=>whnf);refine ⟨fun _=>?_,fun h0=>by cases h0⟩;(conv=>whnf);exact lfE []
  | true =>
    obtain ⟨sides,rd⟩:=a0;cases sides with
    | nil=>cases h
    | cons p l=>cases l with
      | nil=>cases h
      | cons q l=>cases l with
        | cons _ _=>cases h
        | nil =>
          obtain ⟨z,hz,h⟩:=Qa (show bd (Qhr p q rd kind at_ want keys word) (fun z=>some (⟨[z.1,z.2.1],z.2.2⟩:Qv8))=some r from h);obtain rfl:=sj_ h;exact QqB hb hz
noncomputable def Z5 (a0:Qv8) (a1:Int):Option (Qv8) :=
 Qci a0 a1
theorem Qds {a0:Qv8} {a1:Int} {r:Qv8} (h:Z5 a0 a1=some r):EffC Tryz.prog 10 [.agg [.d (slD Qv6.enc a0.Sides),.d (slD Qv7.enc a0.Radio)],dI a1] [] (.agg [.d (slD Qv6.enc r.Sides),.d (slD Qv7.enc r.Radio)]) []:=by
  unfold Z5 at h;exact Qky h
noncomputable def QcH (a0:(List Qv1)) (a1:(List Qv1)):Option (Bool) :=
(if (((a0.length:Nat):Int) != ((a1.length:Nat):Int))=true then
 some false
else
 bd (lp (σ:=Int) (β:=(Unit ⊕ Unit)) (fun s1 =>
(if (decide (s1<((a0.length:Nat):Int)))=true then
 gd ((0:Int)≤s1∧s1<((a0.length:Nat):Int)) <|
 gd ((0:Int)≤s1∧s1<((a1.length:Nat):Int)) <|
(if (!((((a0.getD s1.toNat default).Id) == ((a1.getD s1.toNat default).Id)) && ((((a0.getD s1.toNat default).Secret) == ((a1.getD s1.toNat default).Secret)) && true)))=true then
 some (.inr (.inl ()))
else
 some (.inl (IntKind.i64.wrap (s1+1))))
else
 some (.inr (.inr ())))) 0) fun x4 =>
(match x4 with
| .inl d7 =>
 some false
| .inr d8 =>
 some true))
theorem QlH {a0:(List Qv1)} {a1:(List Qv1)} {r:Bool} (h:QcH a0 a1=some r):PureC Tryz.prog 73 [.d (slD Qv1.enc a0),.d (slD Qv1.enc a1)] (dB r) []:=by
  refine Qt tOk (fn:=Tryz.f73) (c:=Qj Tryz.f73) rfl rfl ?_;unfold QcH at h;(conv=>whnf);refine Qe tOk ?_;(conv=>whnf);refine Qu h (fun _ h=>?_) (fun _ h=>?_)
  · (conv=>whnf);obtain rfl:=sj_ h;exact lfP []
  · (conv=>whnf);refine Qe tOk ?_;(conv=>whnf);obtain ⟨x4,hx4,h⟩:=Qa h;refine Zh tOk hx4 (fun s1=>⟨0,26,[(0,.d (slD Qv1.enc a0)),(1,.d (slD Qv1.enc a1)),(5,dI s1)],[],[],[]⟩) ?_ ?_
    · exact leX []
    · clear hx4;intro s1 y2 g3 hy2;(conv=>whnf);refine Qe tOk ?_;(conv=>whnf);refine Qu g3 (fun _ g3=>?_) (fun _ g3=>?_)
      · (conv=>whnf);refine Qe tOk ?_;(conv=>whnf);obtain ⟨g5,g3⟩:=Qg g3;obtain ⟨g6,g3⟩:=Qg g3;refine QP tOk [] 9 [] [0,0,3,7,0,0,48,112,255] [] ?_;(conv=>whnf);refine And.intro g5 ?_;clear g5;(conv=>whnf);refine And.intro g6 ?_;clear g6;(conv=>whnf);refine And.intro (by kernel_rfl) ?_;(conv=>whnf);refine Qu g3 (fun _ g3=>?_) (fun _ g3=>?_)
        · (conv=>whnf);obtain rfl:=sj_ g3;obtain rfl:=hy2 _ rfl;obtain rfl:=sj_ h;exact lfP []
        · (conv=>whnf);obtain rfl:=sj_ g3;exact ⟨_,rfl,leX []⟩
      · (conv=>whnf);obtain rfl:=sj_ g3;obtain rfl:=hy2 _ rfl;obtain rfl:=sj_ h;exact lfP []
noncomputable def Qbn (a0:(List Qv2)) (a1:(List Qv2)):Option (Bool) :=
(if (((a0.length:Nat):Int) != ((a1.length:Nat):Int))=true then
 some false
else
 bd (lp (σ:=Int) (β:=(Unit ⊕ Unit)) (fun s1 =>
(if (decide (s1<((a0.length:Nat):Int)))=true then
 gd ((0:Int)≤s1∧s1<((a0.length:Nat):Int)) <|
 gd ((0:Int)≤s1∧s1<((a1.length:Nat):Int)) <|
(if (!((((a0.getD s1.toNat default).Addr) == ((a1.getD s1.toNat default).Addr)) && ((((a0.getD s1.toNat default).Len) == ((a1.getD s1.toNat default).Len)) && ((((a0.getD s1.toNat default).Cost) == ((a1.getD s1.toNat default).Cost)) && ((((a0.getD s1.toNat default).Label) == ((a1.getD s1.toNat default).Label)) && true)))))=true then
 some (.inr (.inl ()))
else
 some (.inl (IntKind.i64.wrap (s1+1))))
else
 some (.inr (.inr ())))) 0) fun x4 =>
(match x4 with
| .inl d7 =>
 some false
| .inr d8 =>
 some true))
theorem QgE {a0:(List Qv2)} {a1:(List Qv2)} {r:Bool} (h:Qbn a0 a1=some r):PureC Tryz.prog 11 [.d (slD Qv2.enc a0),.d (slD Qv2.enc a1)] (dB r) []:=by
  refine Qt tOk (fn:=Tryz.f11) (c:=Qj Tryz.f11) rfl rfl ?_;unfold Qbn at h;(conv=>whnf);refine Qe tOk ?_;(conv=>whnf);refine Qu h (fun _ h=>?_) (fun _ h=>?_)
  · (conv=>whnf);obtain rfl:=sj_ h;exact lfP []
  · (conv=>whnf);refine Qe tOk ?_;(conv=>whnf);obtain ⟨x4,hx4,h⟩:=Qa h;refine Zh tOk hx4 (fun s1=>⟨0,26,[(0,.d (slD Qv2.enc a0)),(1,.d (slD Qv2.enc a1)),(5,dI s1)],[],[],[]⟩) ?_ ?_
    · exact leX []
    · clear hx4;intro s1 y2 g3 hy2;(conv=>whnf);refine Qe tOk ?_;(conv=>whnf);refine Qu g3 (fun _ g3=>?_) (fun _ g3=>?_)
      · (conv=>whnf);refine Qe tOk ?_;(conv=>whnf);obtain ⟨g5,g3⟩:=Qg g3;obtain ⟨g6,g3⟩:=Qg g3;refine QP tOk [] 9 [] [0,0,3,7,0,0,48,112,255] [] ?_;(conv=>whnf);refine And.intro g5 ?_;clear g5;(conv=>whnf);refine And.intro g6 ?_;clear g6;(conv=>whnf);refine And.intro (by kernel_rfl) ?_;(conv=>whnf);refine Qu g3 (fun _ g3=>?_) (fun _ g3=>?_)
        · (conv=>whnf);obtain rfl:=sj_ g3;obtain rfl:=hy2 _ rfl;obtain rfl:=sj_ h;exact lfP []
        · (conv=>whnf);obtain rfl:=sj_ g3;exact ⟨_,rfl,leX []⟩
      · (conv=>whnf);obtain rfl:=sj_ g3;obtain rfl:=hy2 _ rfl;obtain rfl:=sj_ h;exact lfP []
noncomputable def QbM (a0:(List Qv4)) (a1:(List Qv4)):Option (Bool) :=
(if (((a0.length:Nat):Int) != ((a1.length:Nat):Int))=true then
 some false
else
 bd (lp (σ:=Int) (β:=(Unit ⊕ Unit)) (fun s1 =>
(if (decide (s1<((a0.length:Nat):Int)))=true then
 gd ((0:Int)≤s1∧s1<((a0.length:Nat):Int)) <|
 gd ((0:Int)≤s1∧s1<((a1.length:Nat):Int)) <|
(if (!((((((a0.getD s1.toNat default).Entry).Addr) == (((a1.getD s1.toNat default).Entry).Addr)) && (((((a0.getD s1.toNat default).Entry).Len) == (((a1.getD s1.toNat default).Entry).Len)) && (((((a0.getD s1.toNat default).Entry).Cost) == (((a1.getD s1.toNat default).Entry).Cost)) && (((((a0.getD s1.toNat default).Entry).Label) == (((a1.getD s1.toNat default).Entry).Label)) && true)))) && ((((a0.getD s1.toNat default).Stale) == ((a1.getD s1.toNat default).Stale)) && true)))=true then
 some (.inr (.inl ()))
else
 some (.inl (IntKind.i64.wrap (s1+1))))
else
 some (.inr (.inr ())))) 0) fun x4 =>
(match x4 with
| .inl d7 =>
 some false
| .inr d8 =>
 some true))
theorem Qju {a0:(List Qv4)} {a1:(List Qv4)} {r:Bool} (h:QbM a0 a1=some r):PureC Tryz.prog 74 [.d (slD Qv4.enc a0),.d (slD Qv4.enc a1)] (dB r) []:=by
  refine Qt tOk (fn:=Tryz.f74) (c:=Qj Tryz.f74) rfl rfl ?_;unfold QbM at h;(conv=>whnf);refine Qe tOk ?_;(conv=>whnf);refine Qu h (fun _ h=>?_) (fun _ h=>?_)
  · (conv=>whnf);obtain rfl:=sj_ h;exact lfP []
  · (conv=>whnf);refine Qe tOk ?_;(conv=>whnf);obtain ⟨x4,hx4,h⟩:=Qa h;refine Zh tOk hx4 (fun s1=>⟨0,26,[(0,.d (slD Qv4.enc a0)),(1,.d (slD Qv4.enc a1)),(5,dI s1)],[],[],[]⟩) ?_ ?_
    · exact leX []
    · clear hx4;intro s1 y2 g3 hy2;(conv=>whnf);refine Qe tOk ?_;(conv=>whnf);refine Qu g3 (fun _ g3=>?_) (fun _ g3=>?_)
      · (conv=>whnf);refine Qe tOk ?_;(conv=>whnf);obtain ⟨g5,g3⟩:=Qg g3;obtain ⟨g6,g3⟩:=Qg g3;refine QP tOk [] 9 [] [0,0,3,7,0,0,48,112,255] [] ?_;(conv=>whnf);refine And.intro g5 ?_;clear g5;(conv=>whnf);refine And.intro g6 ?_;clear g6;(conv=>whnf);refine And.intro (by kernel_rfl) ?_;(conv=>whnf);refine Qu g3 (fun _ g3=>?_) (fun _ g3=>?_)
        · (conv=>whnf);obtain rfl:=sj_ g3;obtain rfl:=hy2 _ rfl;obtain rfl:=sj_ h;exact lfP []
        · (conv=>whnf);obtain rfl:=sj_ g3;exact ⟨_,rfl,leX []⟩
      · (conv=>whnf);obtain rfl:=sj_ g3;obtain rfl:=hy2 _ rfl;obtain rfl:=sj_ h;exact lfP []
noncomputable def Qcw (a0:Qv5) (a1:Qv5):Option (Bool) :=
 bd (gcall (((a0.Name == a1.Name) && (a0.Peer == a1.Peer))=true) (QcH a0.Keys a1.Keys)) fun x1 =>
 bd (gcall (((((a0.Name == a1.Name) && (a0.Peer == a1.Peer)) && x1) && (a0.Boot == a1.Boot))=true) (Qbn a0.Want a1.Want)) fun x2 =>
 bd (gcall (((((((((((((a0.Name == a1.Name) && (a0.Peer == a1.Peer)) && x1) && (a0.Boot == a1.Boot)) && x2) && (a0.Turn == a1.Turn)) && (a0.PeerBoot == a1.PeerBoot)) && (a0.PeerTurn == a1.PeerTurn)) && (a0.Up == a1.Up)) && (a0.Left == a1.Left)) && (a0.Num == a1.Num)) && ((a0.Under.Kind == a1.Under.Kind) && (((a0.Under.Entry.Addr == a1.Under.Entry.Addr) && ((a0.Under.Entry.Len == a1.Under.Entry.Len) && ((a0.Under.Entry.Cost == a1.Under.Entry.Cost) && ((a0.Under.Entry.Label == a1.Under.Entry.Label) && true)))) && true)))=true) (Qbn a0.Told a1.Told)) fun x3 =>
 bd (gcall (((((((((((((((((a0.Name == a1.Name) && (a0.Peer == a1.Peer)) && x1) && (a0.Boot == a1.Boot)) && x2) && (a0.Turn == a1.Turn)) && (a0.PeerBoot == a1.PeerBoot)) && (a0.PeerTurn == a1.PeerTurn)) && (a0.Up == a1.Up)) && (a0.Left == a1.Left)) && (a0.Num == a1.Num)) && ((a0.Under.Kind == a1.Under.Kind) && (((a0.Under.Entry.Addr == a1.Under.Entry.Addr) && ((a0.Under.Entry.Len == a1.Under.Entry.Len) && ((a0.Under.Entry.Cost == a1.Under.Entry.Cost) && ((a0.Under.Entry.Label == a1.Under.Entry.Label) && true)))) && true))) && x3) && (a0.All == a1.All)) && (a0.Got == a1.Got)) && (a0.Full == a1.Full))=true) (QbM a0.Heard a1.Heard)) fun x4 =>
 some ((((((((((((((((((a0.Name == a1.Name) && (a0.Peer == a1.Peer)) && x1) && (a0.Boot == a1.Boot)) && x2) && (a0.Turn == a1.Turn)) && (a0.PeerBoot == a1.PeerBoot)) && (a0.PeerTurn == a1.PeerTurn)) && (a0.Up == a1.Up)) && (a0.Left == a1.Left)) && (a0.Num == a1.Num)) && ((a0.Under.Kind == a1.Under.Kind) && (((a0.Under.Entry.Addr == a1.Under.Entry.Addr) && ((a0.Under.Entry.Len == a1.Under.Entry.Len) && ((a0.Under.Entry.Cost == a1.Under.Entry.Cost) && ((a0.Under.Entry.Label == a1.Under.Entry.Label) && true)))) && true))) && x3) && (a0.All == a1.All)) && (a0.Got == a1.Got)) && (a0.Full == a1.Full)) && x4) && (a0.Keep == a1.Keep))
theorem QmE {a0:Qv5} {a1:Qv5} {r:Bool} (h:Qcw a0 a1=some r):PureC Tryz.prog 37 [.agg (heC a0 (.d (slD Qv4.enc a0.Heard))),.agg (heC a1 (.d (slD Qv4.enc a1.Heard)))] (dB r) []:=by
  refine Qt tOk (fn:=Tryz.f37) (c:=Qj Tryz.f37) rfl rfl ?_;unfold Qcw at h;(conv=>whnf);obtain ⟨x1,hx1,h⟩:=Qa h;refine cG (fun c0=>QlH (Qf hx1 c0)) ?_;(conv=>whnf);obtain ⟨x2,hx2,h⟩:=Qa h;refine cG (fun c0=>QgE (Qf hx2 c0)) ?_;(conv=>whnf);obtain ⟨x3,hx3,h⟩:=Qa h;refine cG (fun c0=>QgE (Qf hx3 c0)) ?_;(conv=>whnf);obtain ⟨x4,hx4,h⟩:=Qa h;refine cG (fun c0=>Qju (Qf hx4 c0)) ?_;(conv=>whnf);obtain rfl:=sj_ h;exact lfP []
noncomputable def JL (a0:Qv8) (a1:Qv8):Option (Bool) :=
(if ((((a0.Sides.length:Nat):Int) != ((a1.Sides.length:Nat):Int)) || (((a0.Radio.length:Nat):Int) != ((a1.Radio.length:Nat):Int)))=true then
 some false
else
 bd (lp (σ:=Int) (β:=(Unit ⊕ Unit)) (fun s1 =>
(if (decide (s1<((a0.Sides.length:Nat):Int)))=true then
 gd ((0:Int)≤s1∧s1<((a0.Sides.length:Nat):Int)) <|
 gd ((0:Int)≤s1∧s1<((a1.Sides.length:Nat):Int)) <|
 gd ((!(((a0.Sides.getD s1.toNat default).Up) == ((a1.Sides.getD s1.toNat default).Up)))=false→((0:Int)≤s1∧s1<((a0.Sides.length:Nat):Int))) <|
 gd ((!(((a0.Sides.getD s1.toNat default).Up) == ((a1.Sides.getD s1.toNat default).Up)))=false→((0:Int)≤s1∧s1<((a1.Sides.length:Nat):Int))) <|
 bd (gcall ((!(((a0.Sides.getD s1.toNat default).Up) == ((a1.Sides.getD s1.toNat default).Up)))=false) (Qcw ({ ((a0.Sides.getD s1.toNat default).End) with Under:=(⟨(((a0.Sides.getD s1.toNat default).End).Under).Kind,((((a0.Sides.getD s1.toNat default).End).Under).Entry)⟩:Qv3) }) ({ ((a1.Sides.getD s1.toNat default).End) with Under:=(⟨(((a1.Sides.getD s1.toNat default).End).Under).Kind,((((a1.Sides.getD s1.toNat default).End).Under).Entry)⟩:Qv3) }))) fun x9 =>
(if ((!(((a0.Sides.getD s1.toNat default).Up) == ((a1.Sides.getD s1.toNat default).Up))) || (!x9))=true then
 some (.inr (.inl ()))
else
 some (.inl (IntKind.i64.wrap (s1+1))))
else
 some (.inr (.inr ())))) 0) fun x4 =>
(match x4 with
| .inl d10 =>
 some false
| .inr d11 =>
 bd (lp (σ:=Int) (β:=(Unit ⊕ Unit)) (fun s12 =>
(if (decide (s12<((a0.Radio.length:Nat):Int)))=true then
 gd ((0:Int)≤s12∧s12<((a0.Radio.length:Nat):Int)) <|
 gd ((0:Int)≤s12∧s12<((a1.Radio.length:Nat):Int)) <|
(if (!((((a0.Radio.getD s12.toNat default).From) == ((a1.Radio.getD s12.toNat default).From)) && ((((a0.Radio.getD s12.toNat default).To) == ((a1.Radio.getD s12.toNat default).To)) && ((((a0.Radio.getD s12.toNat default).Key) == ((a1.Radio.getD s12.toNat default).Key)) && ((((a0.Radio.getD s12.toNat default).Boot) == ((a1.Radio.getD s12.toNat default).Boot)) && ((((a0.Radio.getD s12.toNat default).Yours) == ((a1.Radio.getD s12.toNat default).Yours)) && ((((a0.Radio.getD s12.toNat default).Turn) == ((a1.Radio.getD s12.toNat default).Turn)) && ((((a0.Radio.getD s12.toNat default).Num) == ((a1.Radio.getD s12.toNat default).Num)) && ((((a0.Radio.getD s12.toNat default).Heard) == ((a1.Radio.getD s12.toNat default).Heard)) && ((((((a0.Radio.getD s12.toNat default).Change).Kind) == (((a1.Radio.getD s12.toNat default).Change).Kind)) && (((((((a0.Radio.getD s12.toNat default).Change).Entry).Addr) == ((((a1.Radio.getD s12.toNat default).Change).Entry).Addr)) && ((((((a0.Radio.getD s12.toNat default).Change).Entry).Len) == ((((a1.Radio.getD s12.toNat default).Change).Entry).Len)) && ((((((a0.Radio.getD s12.toNat default).Change).Entry).Cost) == ((((a1.Radio.getD s12.toNat default).Change).Entry).Cost)) && ((((((a0.Radio.getD s12.toNat default).Change).Entry).Label) == ((((a1.Radio.getD s12.toNat default).Change).Entry).Label)) && true)))) && true)) && ((((a0.Radio.getD s12.toNat default).Sum) == ((a1.Radio.getD s12.toNat default).Sum)) && true)))))))))))=true then
 some (.inr (.inl ()))
else
 some (.inl (IntKind.i64.wrap (s12+1))))
else
 some (.inr (.inr ())))) 0) fun x15 =>
(match x15 with
| .inl d18 =>
 some false
| .inr d19 =>
 some true)))
theorem Qeo {a0:Qv8} {a1:Qv8} {r:Bool} (h:JL a0 a1=some r):PureC Tryz.prog 15 [.agg [.d (slD Qv6.enc a0.Sides),.d (slD Qv7.enc a0.Radio)],.agg [.d (slD Qv6.enc a1.Sides),.d (slD Qv7.enc a1.Radio)]] (dB r) []:=by
  refine Qt tOk (fn:=Tryz.f15) (c:=Qj Tryz.f15) rfl rfl ?_;unfold JL at h;(conv=>whnf);refine Qe tOk ?_;(conv=>whnf);refine Qu h (fun _ h=>?_) (fun _ h=>?_)
  · (conv=>whnf);obtain rfl:=sj_ h;exact lfP []
  · (conv=>whnf);refine Qe tOk ?_;(conv=>whnf);obtain ⟨x4,hx4,h⟩:=Qa h;refine Zh tOk hx4 (fun s1=>⟨0,77,[(2,.ref 2 0 0),(3,.ref 3 0 0),(5,dI s1)],[],[(3,.box 26 [.d (slD Qv6.enc a1.Sides),.d (slD Qv7.enc a1.Radio)]),(2,.box 26 [.d (slD Qv6.enc a0.Sides),.d (slD Qv7.enc a0.Radio)])],[]⟩) ?_ ?_
    · exact leX []
    · clear hx4;intro s1 y2 g3 hy2;(conv=>whnf);refine Qe tOk ?_;(conv=>whnf);refine Qu g3 (fun _ g3=>?_) (fun _ g3=>?_)
      · (conv=>whnf);refine Qe tOk ?_;(conv=>whnf);obtain ⟨g5,g3⟩:=Qg g3;obtain ⟨g6,g3⟩:=Qg g3;obtain ⟨g7,g3⟩:=Qg g3;obtain ⟨g8,g3⟩:=Qg g3;obtain ⟨x9,hx9,g3⟩:=Qa g3;refine QP tOk [.u 26 0 (dB x9) []] 29 [] [0,1,0,7,15,31,0,64,0,448,960,1984,4095,8191,16383,32767,16383,131071,262143,524287,16383,1064959,16383,7356415,15745023,32522239,67108863,134217727,268435455] [] ?_;(conv=>whnf);refine And.intro g5 ?_;clear g5;(conv=>whnf);refine And.intro g6 ?_;clear g6;(conv=>whnf);refine And.intro g7 ?_;clear g7;(conv=>whnf);refine And.intro g8 ?_;clear g8;(conv=>whnf);refine And.intro (Q1 rfl rfl rfl rfl (by intro c0; exact QmE (Qf hx9 c0))) ?_;(conv=>whnf);refine And.intro (by kernel_rfl) ?_;(conv=>whnf);refine Qu g3 (fun _ g3=>?_) (fun _ g3=>?_)
        · (conv=>whnf);obtain rfl:=sj_ g3;obtain rfl:=hy2 _ rfl;obtain rfl:=sj_ h;exact lfP []
        · (conv=>whnf);obtain rfl:=sj_ g3;exact ⟨_,rfl,leX []⟩
      · (conv=>whnf);obtain rfl:=sj_ g3;obtain rfl:=hy2 _ rfl;refine Qe tOk ?_;(conv=>whnf);obtain ⟨x15,hx15,h⟩:=Qa h;refine Zh tOk hx15 (fun s12=>⟨0,77,[(2,.ref 2 0 0),(3,.ref 3 0 0),(6,dI s12)],[],[(3,.box 26 [.d (slD Qv6.enc a1.Sides),.d (slD Qv7.enc a1.Radio)]),(2,.box 26 [.d (slD Qv6.enc a0.Sides),.d (slD Qv7.enc a0.Radio)])],[]⟩) ?_ ?_
        · exact leX []
        · clear hx15;intro s12 y13 g14 hy13;(conv=>whnf);refine Qe tOk ?_;(conv=>whnf);refine Qu g14 (fun _ g14=>?_) (fun _ g14=>?_)
          · (conv=>whnf);refine Qe tOk ?_;(conv=>whnf);obtain ⟨g16,g14⟩:=Qg g14;obtain ⟨g17,g14⟩:=Qg g14;refine QP tOk [] 11 [] [0,1,0,7,15,0,32,0,224,480,1023] [] ?_;(conv=>whnf);refine And.intro g16 ?_;clear g16;(conv=>whnf);refine And.intro g17 ?_;clear g17;(conv=>whnf);refine And.intro (by kernel_rfl) ?_;(conv=>whnf);refine Qu g14 (fun _ g14=>?_) (fun _ g14=>?_)
            · (conv=>whnf);obtain rfl:=sj_ g14;obtain rfl:=hy13 _ rfl;obtain rfl:=sj_ h;exact lfP []
            · (conv=>whnf);obtain rfl:=sj_ g14;exact ⟨_,rfl,leX []⟩
          · (conv=>whnf);obtain rfl:=sj_ g14;obtain rfl:=hy13 _ rfl;obtain rfl:=sj_ h;exact lfP []
noncomputable def QaQ (a0:(List Int)) (a1:(List Int)):Option (Bool) :=
(if ((decide (((a0.length:Nat):Int) > 1048576)) || (decide (((a1.length:Nat):Int) > 1048576)))=true then
 some true
else
 bd (J7 a0) fun x1 =>
 gd ((4:Int) ≠ 0) <|
 gd ((4:Int) ≠ 0) <|
 bd (Z5 x1.1 (IntKind.i64.wrap (((((a0.length:Nat):Int):Int).tmod 4)+((((a1.length:Nat):Int):Int).tmod 4)))) fun x4 =>
 bd (ZM x1.1 (IntKind.i64.wrap (((((a0.length:Nat):Int):Int).tmod 4)+((((a1.length:Nat):Int):Int).tmod 4)))) fun x5 =>
 bd (JL x4 x5) fun x6 =>
 bd (gcall ((!x6)=false) (QI x1.1)) fun x7 =>
 bd (gcall ((!x6)=false) (QN x1.1)) fun x8 =>
(if ((!x6) || (!(x7 == x8)))=true then
 some false
else
 bd (QN x1.1) fun x9 =>
(if (!x9)=true then
 bd (JL x4 (⟨[],[]⟩:Qv8)) fun x10 =>
 some x10
else
 bd (QI x4) fun x11 =>
 bd (gcall (x11=true) (Z5 x1.1 ((((a0.length:Nat):Int):Int).tmod 4))) fun x12 =>
 bd (gcall (x11=true) (Z5 x12 ((((a1.length:Nat):Int):Int).tmod 4))) fun x13 =>
 bd (gcall (x11=true) (JL x4 x13)) fun x14 =>
 some (x11 && x14))))
theorem Qgu {a0:(List Int)} {a1:(List Int)} {r:Bool} (h:QaQ a0 a1=some r):PureC Tryz.prog 6 [.d (slD Qq a0),.d (slD Qq a1)] (dB r) []:=by
  refine Qt tOk (fn:=Tryz.f6) (c:=Qj Tryz.f6) rfl rfl ?_;unfold QaQ at h;(conv=>whnf);refine Qe tOk ?_;(conv=>whnf);refine Qu h (fun _ h=>?_) (fun _ h=>?_)
  · (conv=>whnf);obtain rfl:=sj_ h;exact lfP []
  · (conv=>whnf);obtain ⟨x1,hx1,h⟩:=Qa h;refine cE [] 1000 (Qgr hx1) ?_;(conv=>whnf);refine gdI h (fun h=>?_);(conv=>whnf);refine gdI h (fun h=>?_);(conv=>whnf);obtain ⟨x4,hx4,h⟩:=Qa h;refine QcU [6001,6002] ?_;(conv=>whnf);refine cE [] 0 (Qds hx4) ?_;(conv=>whnf);refine Qe tOk ?_;(conv=>whnf);obtain ⟨x5,hx5,h⟩:=Qa h;obtain ⟨x6,hx6,h⟩:=Qa h;obtain ⟨x7,hx7,h⟩:=Qa h;obtain ⟨x8,hx8,h⟩:=Qa h;refine JA tOk [.e 5 [] (.agg [.osl 6001 0 x5.Sides.length,.osl 6002 0 x5.Radio.length]) [(6001,.arr 38 23 x5.Sides.length (rows Qv6.enc x5.Sides)),(6002,.arr 42 14 x5.Radio.length (rows Qv7.enc x5.Radio))] [],.u 6 0 (dB x6) [],.u 10 0 (dB x7) [],.u 12 0 (dB x8) []] 15 [] [0,0,0,0,12,30,63,127,255,511,1023,511,4095,8191,16383] [] [] ?_;(conv=>whnf);refine And.intro (eD [] 1000 (Qfm hx5)) ?_;(conv=>whnf);refine And.intro (QM (Qeo hx6) (by kernel_rfl)) ?_;(conv=>whnf);refine And.intro (Q1 rfl rfl rfl rfl (by intro c0; exact JF (Qf hx7 c0))) ?_;(conv=>whnf);refine And.intro (Q1 rfl rfl rfl rfl (by intro c0; exact Qan (Qf hx8 c0))) ?_;(conv=>whnf);refine And.intro (by kernel_rfl) ?_;(conv=>whnf);refine Qu h (fun _ h=>?_) (fun _ h=>?_)
    · (conv=>whnf);obtain rfl:=sj_ h;exact lfP []
    · (conv=>whnf);refine Qe tOk ?_;(conv=>whnf);obtain ⟨x9,hx9,h⟩:=Qa h;refine cC 0 (Qan hx9) ?_;clear hx9;(conv=>whnf);refine Qu h (fun _ h=>?_) (fun _ h=>?_)
      · (conv=>whnf);obtain ⟨x10,hx10,h⟩:=Qa h;refine Qse 0 (Qeo hx10) rfl Qou rfl ?_;(conv=>whnf);obtain rfl:=sj_ h;exact lfP []
      · (conv=>whnf);obtain ⟨x11,hx11,h⟩:=Qa h;obtain ⟨x12,hx12,h⟩:=Qa h;obtain ⟨x13,hx13,h⟩:=Qa h;obtain ⟨x14,hx14,h⟩:=Qa h;refine JA tOk [.u 1 0 (dB x11) [],.e 6 [] (.agg [.d (slD Qv6.enc x12.Sides),.d (slD Qv7.enc x12.Radio)]) [] [],.e 8 [] (.agg [.d (slD Qv6.enc x13.Sides),.d (slD Qv7.enc x13.Radio)]) [] [],.u 9 0 (dB x14) []] 12 [] [0,1,3,7,7,7,55,7,247,511,1023,2047] [] [] ?_;(conv=>whnf);refine And.intro (QM (JF hx11) (by kernel_rfl)) ?_;(conv=>whnf);refine And.intro (And.intro ⟨⟨Tryz.f10,rfl,rfl,rfl⟩⟩ (And.intro (by intro c0; exact eD [] 0 (Qds (Qf hx12 c0))) (Qf8 inA))) ?_;(conv=>whnf);refine And.intro (And.intro ⟨⟨Tryz.f10,rfl,rfl,rfl⟩⟩ (And.intro (by intro c0; exact eD [] 0 (Qds (Qf hx13 c0))) (Qf8 inA))) ?_;(conv=>whnf);refine And.intro (Q1 rfl rfl rfl rfl (by intro c0; exact Qeo (Qf hx14 c0))) ?_;(conv=>whnf);refine And.intro (by kernel_rfl) ?_;(conv=>whnf);obtain rfl:=sj_ h;exact lfP []
end Go.Proofs.YtjgjdobkahdgfaaGreat
