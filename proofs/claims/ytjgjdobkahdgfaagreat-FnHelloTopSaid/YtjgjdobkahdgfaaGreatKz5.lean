/-
  What some of the program's functions compute: their models, and that the functions compute these; no condition.
-/
import Derived.Test.YtjgjdobkahdgfaaGreatTyz
import Derived.Test.YtjgjdobkahdgfaaGreatTbz
import Derived.Test.YtjgjdobkahdgfaaGreatAbz7
import Derived.Test.YtjgjdobkahdgfaaGreatKz4
set_option linter.all false
namespace Go.Proofs.YtjgjdobkahdgfaaGreat
open Go Go.Ab
set_option maxRecDepth 100000
set_option maxHeartbeats 40000000
noncomputable def QbE (s0 s1:Qwk) (rd:List Qwl) (kind at_:Int):Option (Qwk × Qwk × List Qwl) :=
 bd (Qu at_ 0 (IntKind.i64.wrap (((rd.length:Nat):Int) - 1))) fun x1 =>
(if (!x1)=true then
 some (s0,s1,rd)
else
 gd ((0:Int)≤at_∧at_<((rd.length:Nat):Int)) <|
(if (kind == 3)=true then
 bd (Qd5 rd (rd.getD at_.toNat default)) fun y=>some (s0,s1,y)
else
 bd (Zb rd at_ (IntKind.i64.wrap (at_+1))) fun y =>
(if (kind == 2)=true then
 bd (Qeo s0 s1 (rd.getD at_.toNat default)) fun z=>some (z.1,z.2,y)
else
 some (s0,s1,y))))
theorem QeJ {s0 s1:Qwk} {rd:List Qwl} {kind at_:Int} {r:Qwk × Qwk × List Qwl} (h:QbE s0 s1 rd kind at_=some r):EffC Tryz.prog 26 [.ref 9000 0 0,.d (.int .i64 kind),.d (.int .i64 at_)] (hwB 9000 9001 9002 9003 9004 s0 s1 rd) (.tup []) (hwB 9000 9001 5002 5003 5004 r.1 r.2.1 r.2.2):=by
  refine Q7 tOk (fn:=Tryz.f26) (c:=Qj Tryz.f26) rfl rfl ?_;unfold QbE at h;(conv=>whnf);refine Qc tOk ?_;(conv=>whnf);obtain ⟨x1,hx1,h⟩:=Qa h;refine cC 0 (Qy hx1) ?_;clear hx1;(conv=>whnf);refine Qz h (fun _ h=>?_) (fun _ h=>?_)
  · (conv=>whnf);obtain rfl:=sj_ h;exact lfE [.s [(9002,5002),(5002,9002),(9003,5003),(5003,9003),(9004,5004),(5004,9004)]]
  · (conv=>whnf);refine gdI h (fun h=>?_);(conv=>whnf);refine Qc tOk ?_;(conv=>whnf);refine Qz h (fun _ h=>?_) (fun _ h=>?_)
    · (conv=>whnf);obtain ⟨y,hy,h⟩:=Qa h;obtain rfl:=sj_ h;refine cE [(5002,6002)] 0 (QiB (s0:=s0) (s1:=s1) hy) ?_;(conv=>whnf);exact lfE [.s [(6002,5002),(5002,6002),(9003,5003),(5003,9003),(9004,5004),(5004,9004)]]
    · (conv=>whnf);obtain ⟨y,hy,h⟩:=Qa h;refine cE [(9000,9002),(5001,6002)] 0 (Qcg hy) ?_;(conv=>whnf);refine Qz h (fun _ h=>?_) (fun _ h=>?_)
      · (conv=>whnf);obtain ⟨z,hz,h⟩:=Qa h;obtain rfl:=sj_ h;refine cE [(9002,6002),(5003,6003),(5004,6004)] 0 (Qpm (rd:=y) hz) ?_;(conv=>whnf);exact lfE [.s [(6002,5002),(5002,6002),(6003,5003),(5003,6003),(6004,5004),(5004,6004)]]
      · (conv=>whnf);obtain rfl:=sj_ h;exact lfE [.s [(6002,5002),(5002,6002),(9003,5003),(5003,9003),(9004,5004),(5004,9004)]]
noncomputable def Qdw (s0 s1:Qwk) (rd:List Qwl):Option (Qwk × Qwk × List Qwl) :=
 lp (σ:=Qwk × Qwk × List Qwl) (β:=Qwk × Qwk × List Qwl) (fun s =>
(if (decide (((s.2.2.length:Nat):Int) > 0))=true then
 bd (QbE s.1 s.2.1 s.2.2 2 0) fun y=>some (.inl y)
else
 some (.inr s))) (s0,s1,rd)
theorem Qg4 {s0 s1:Qwk} {rd:List Qwl} {r:Qwk × Qwk × List Qwl} (h:Qdw s0 s1 rd=some r):EffC Tryz.prog 31 [.ref 9000 0 0] (hwB 9000 9001 9002 9003 9004 s0 s1 rd) (.tup []) (hwB 9000 9001 5002 5003 5004 r.1 r.2.1 r.2.2):=by
  refine Q7 tOk (fn:=Tryz.f31) (c:=Qj Tryz.f31) rfl rfl ?_;unfold Qdw at h;(conv=>whnf);refine Zj tOk h (fun s=>⟨0,10,[(0,.ref 9000 0 0)],[],hwB 9000 9001 9002 9003 9004 s.1 s.2.1 s.2.2,[⟨[(0,.ref 9000 0 0),(1,.osl 9001 0 2)],[]⟩]⟩) ?_ ?_
  · exact leX []
  · clear h;intro s y g hy;(conv=>whnf);refine Qc tOk ?_;(conv=>whnf);refine Qz g (fun _ g=>?_) (fun _ g=>?_)
    · (conv=>whnf);obtain ⟨z,hz,g⟩:=Qa g;obtain rfl:=sj_ g;refine cE [(5002,6002),(5003,6003),(5004,6004)] 0 (QeJ hz) ?_;(conv=>whnf);exact ⟨_,rfl,leX [.s [(6002,9002),(9002,6002),(6003,9003),(9003,6003),(6004,9004),(9004,6004)]]⟩
    · (conv=>whnf);obtain rfl:=sj_ g;obtain rfl:=hy _ rfl;exact lfE [.s [(9002,5002),(5002,9002),(9003,5003),(5003,9003),(9004,5004),(5004,9004)]]
noncomputable def Qep (s0 s1:Qwk) (x:Qwl):Option Bool:=Qk [s0,s1] x
theorem Qkm {s0 s1:Qwk} {rd:List Qwl} {x:Qwl} {r:Bool} (h:Qep s0 s1 x=some r):PureC Tryz.prog 28 [.rp [.sl 2 (Qma 23 (Qwk.enc s0 ++ Qwk.enc s1)),slD Qwl.enc rd],.agg (hwC x)] (.d (.bool r)) []:=by
  have h2:ZD ⟨[s0,s1],rd⟩ x=some r:=by
    unfold ZD;rw [show Qk [s0,s1] x=some r from h];rfl
  exact PureC.le (vs:=[.rp [slD Qwk.enc [s0,s1],slD Qwl.enc rd],.agg (hwC x)]) (And.intro (VLe.rpL (And.intro (VLe.rows (by kernel_rfl) (Qto (by kernel_rfl) (by kernel_rfl))) (And.intro (VLe.refl _) trivial))) (And.intro (VLe.refl _) trivial)) (Qcx h2)
@[reducible] def hwP:Nat × Blk:=(9005,.box 78 [.ref 9000 0 0])
noncomputable def Qgv (s0 s1:Qwk) (x:Qwl):Option Bool:=bd (Qep s0 s1 x) fun b=>some (!b)
theorem Qqh {s0 s1:Qwk} {rd:List Qwl} {x:Qwl} {r:Bool} (h:Qgv s0 s1 x=some r):EffC Tryz.prog 64 [.agg (hwC x),.ref 9005 0 0] (hwP :: hwB 9000 9001 9002 9003 9004 s0 s1 rd) (.d (.bool r)) (hwP :: hwB 9000 9001 9002 9003 9004 s0 s1 rd):=by
  refine Q7 tOk (fn:=Tryz.f64) (c:=Qj Tryz.f64) rfl rfl ?_;unfold Qgv at h;(conv=>whnf);obtain ⟨b,hb,h⟩:=Qa h;obtain rfl:=sj_ h;refine cC 0 (Qkm (rd:=rd) hb) ?_;(conv=>whnf);exact lfE []
noncomputable def Qg5 (s0 s1:Qwk) (rd:List Qwl):Option Int :=
 bd (lp (σ:=Int) (β:=Int ⊕ Unit) (fun s =>
(if (decide (s<((rd.length:Nat):Int)))=true then
 gd ((0:Int)≤s∧s<((rd.length:Nat):Int)) <|
 bd (Qgv s0 s1 (rd.getD s.toNat default)) fun x6 =>
(if x6=true then
 some (.inr (.inl s))
else
 some (.inl (IntKind.i64.wrap (s+1))))
else
 some (.inr (.inr ())))) 0) fun x4 =>
(match x4 with
| .inl d7=>some d7
| .inr _=>some (-1))
theorem Qsb {s0 s1:Qwk} {rd:List Qwl} {r:Int} (h:Qg5 s0 s1 rd=some r):EffC Tryz.prog 100 [.osl 9002 0 rd.length,.fn 64 [.ref 9005 0 0]] (hwP :: hwB 9000 9001 9002 9003 9004 s0 s1 rd) (.d (.int .i64 r)) (hwP :: hwB 9000 9001 9002 9003 9004 s0 s1 rd):=by
  refine Q7 tOk (fn:=Tryz.f100) (c:=Qj Tryz.f100) rfl rfl ?_;unfold Qg5 at h;(conv=>whnf);refine Qc tOk ?_;(conv=>whnf);obtain ⟨x4,hx4,h⟩:=Qa h;refine Zj tOk hx4 (fun s=>⟨0,Tryz.f100.ntmps,[(0,.osl 9002 0 rd.length),(1,.fn 64 [.ref 9005 0 0]),(7,.d (.int .i64 ((rd.length:Nat):Int))),(8,.d (.int .i64 s))],[],hwP :: hwB 9000 9001 9002 9003 9004 s0 s1 rd,[⟨Qkd 0 (hwP :: hwB 9000 9001 9002 9003 9004 s0 s1 rd),[]⟩]⟩) ?_ ?_
  · exact leX []
  · clear hx4;intro s y g hy;(conv=>whnf);refine Qc tOk ?_;(conv=>whnf);refine Qz g (fun _ g=>?_) (fun _ g=>?_)
    · (conv=>whnf);refine Qc tOk ?_;(conv=>whnf);refine gdI g (fun g=>?_);(conv=>whnf);obtain ⟨x6,hx6,g⟩:=Qa g;refine cE [] 0 (Qqh (rd:=rd) hx6) ?_;(conv=>whnf);refine Qz g (fun _ g=>?_) (fun _ g=>?_)
      · (conv=>whnf);obtain rfl:=sj_ g;obtain rfl:=hy _ rfl;obtain rfl:=sj_ h;exact lfE []
      · (conv=>whnf);obtain rfl:=sj_ g;exact ⟨_,rfl,leX []⟩
    · (conv=>whnf);obtain rfl:=sj_ g;obtain rfl:=hy _ rfl;obtain rfl:=sj_ h;exact lfE []
noncomputable def QfU (s0 s1:Qwk) (rd:List Qwl):Option (List Qwl) :=
 bd (Qg5 s0 s1 rd) fun x1 =>
(if (x1 == (-1))=true then
 some rd
else
 bd (lp (σ:=List Qwl × Int × Int) (β:=Nat × Int × List Qwl) (fun s2 =>
(if (decide (s2.2.2<((s2.1.length:Nat):Int)))=true then
 gd ((0:Int)≤s2.2.2∧s2.2.2<((s2.1.length:Nat):Int)) <|
 bd (Qgv s0 s1 (s2.1.getD s2.2.2.toNat default)) fun x7 =>
(if (!x7)=true then
 gd ((0:Int)≤s2.2.1∧s2.2.1<((s2.1.length:Nat):Int)) <|
 bd (some (s2.1.set s2.2.1.toNat (s2.1.getD s2.2.2.toNat default))) fun x9 =>
 some (.inl (x9,IntKind.i64.wrap (s2.2.1+1),IntKind.i64.wrap (s2.2.2+1)))
else
 some (.inl (s2.1,s2.2.1,IntKind.i64.wrap (s2.2.2+1))))
else
 some (.inr (s2.1.length,s2.2.1,s2.1)))) (rd,x1,IntKind.i64.wrap (x1+1))) fun x5 =>
 gd ((0:Int)≤x5.2.1∧x5.2.1≤((x5.1:Nat):Int)∧((x5.1:Nat):Int)≤((x5.1:Nat):Int)) <|
 gd ((0:Int)≤(0:Int)∧(0:Int)≤x5.2.1∧x5.2.1≤((x5.1:Nat):Int)) <|
 some ((Qpk x5.2.2 x5.2.1.toNat (QcL ((x5.1:Nat):Int) x5.2.1)).take x5.2.1.toNat))
theorem Qoc {s0 s1:Qwk} {rd r:List Qwl} (h:QfU s0 s1 rd=some r):EffC Tryz.prog 63 [.osl 9002 0 rd.length,.fn 64 [.ref 9005 0 0]] (hwP :: hwB 9000 9001 9002 9003 9004 s0 s1 rd) (.osl 5002 0 r.length) [hwP,(9000,.box 26 [.osl 9001 0 2,.any]),(9001,hwS 9003 9004 s0 s1),(5002,hwR r),(9003,heA s0.End),(9004,heA s1.End)]:=by
  refine Q7 tOk (fn:=Tryz.f63) (c:=Qj Tryz.f63) rfl rfl ?_;unfold QfU at h;(conv=>whnf);obtain ⟨x1,hx1,h⟩:=Qa h;refine cE [] 0 (Qsb (rd:=rd) hx1) ?_;(conv=>whnf);refine Qc tOk ?_;(conv=>whnf);refine Qz h (fun _ h=>?_) (fun _ h=>?_)
  · (conv=>whnf);obtain rfl:=sj_ h;exact lfE [.s [(5002,9002),(9002,5002)]]
  · (conv=>whnf);refine Qc tOk ?_;(conv=>whnf);obtain ⟨x5,hx5,h⟩:=Qa h;refine Zj tOk hx5 (fun s2=>⟨0,Tryz.f63.ntmps,[(0,.osl 9002 0 s2.1.length),(1,.fn 64 [.ref 9005 0 0]),(5,.d (.int .i64 s2.2.1)),(6,.d (.int .i64 s2.2.2))],[],hwP :: hwB 9000 9001 9002 9003 9004 s0 s1 s2.1,[⟨Qkd 0 (hwP :: hwB 9000 9001 9002 9003 9004 s0 s1 rd),[]⟩]⟩) ?_ ?_
    · exact leX []
    · clear hx5;intro s2 y3 g4 hy3;(conv=>whnf);refine Qc tOk ?_;(conv=>whnf);refine Qz g4 (fun _ g4=>?_) (fun _ g4=>?_)
      · (conv=>whnf);refine Qc tOk ?_;(conv=>whnf);refine gdI g4 (fun g4=>?_);(conv=>whnf);obtain ⟨x7,hx7,g4⟩:=Qa g4;refine cE [] 0 (Qqh (rd:=s2.1) hx7) ?_;(conv=>whnf);refine Qz g4 (fun _ g4=>?_) (fun _ g4=>?_)
        · (conv=>whnf);refine gdI g4 (fun g4=>?_);(conv=>whnf);obtain ⟨x9,hx9,hlx9,g4⟩:=Ql6 g4;refine Qu4 (enc:=Qwl.enc) hx9 ?_;(conv=>whnf);obtain rfl:=sj_ g4;exact ⟨_,rfl,leX []⟩
        · (conv=>whnf);obtain rfl:=sj_ g4;exact ⟨_,rfl,leX []⟩
      · (conv=>whnf);obtain rfl:=sj_ g4;obtain rfl:=hy3 _ rfl;dsimp only at h;obtain ⟨g11,h⟩:=Qf h;refine And.intro g11 ?_;(conv=>whnf);refine ⟨rows Qwl.enc (Qpk (s2.1.length,s2.2.1,s2.1).2.2 (s2.1.length,s2.2.1,s2.1).2.1.toNat (QcL (((s2.1.length,s2.2.1,s2.1).1:Nat):Int) (s2.1.length,s2.2.1,s2.1).2.1)),Qlf Qm7 rfl,?_⟩;(conv=>whnf);obtain ⟨g12,h⟩:=Qf h;refine And.intro g12 ?_;(conv=>whnf);obtain rfl:=sj_ h;exact lfE [.c 4,.s [(5002,9002),(9002,5002)]]
@[reducible] def Qg6 (e r:Qwj):Qwj:={ r with Name:=e.Name,Peer:=e.Peer,Keys:=e.Keys,Want:=e.Want,PeerBoot:=e.PeerBoot,PeerTurn:=e.PeerTurn }
noncomputable def QbF (s0 s1:Qwk) (rd:List Qwl) (kind:Int) (want:List Qwg) (keys:List Qwf):Option (Qwk × Qwk × List Qwl) :=
(if ((kind == 1) && s0.Up)=true then
 bd (Jw s0.End) fun x =>
(if x.2.1=true then
 bd (Qd5 rd x.1) fun y=>some (⟨s0.Up,Qg6 s0.End x.2.2⟩,s1,y)
else
 some (⟨s0.Up,Qg6 s0.End x.2.2⟩,s1,rd))
else
(if ((kind == 5) && s0.Up)=true then
 bd (ZX s0.End) fun x=>some (⟨s0.Up,Qg6 s0.End x⟩,s1,rd)
else
(if (kind == 6)=true then
 bd (QbR s0.End) fun x=>some (⟨false,x⟩,s1,rd)
else
(if ((kind == 7) && (!s0.Up))=true then
 bd (Zc s0.End) fun x=>some (⟨true,Qg6 s0.End x⟩,s1,rd)
else
 bd (gcall ((kind == 8)=true) (Zr want)) fun t =>
(if ((kind == 8) && t)=true then
 bd (QF want) fun x=>some (⟨s0.Up,{ s0.End with Want:=x }⟩,s1,rd)
else
 bd (gcall ((kind == 9)=true) (ZZ keys)) fun t2 =>
(if ((kind == 9) && t2)=true then
 bd (QfU s0 s1 rd) fun y =>
 bd (Zp keys) fun x=>some (⟨s0.Up,{ s0.End with Keys:=x }⟩,s1,y)
else
 some (s0,s1,rd)))))))
theorem Qfs {s0 s1:Qwk} {rd:List Qwl} {kind:Int} {want:List Qwg} {keys:List Qwf} {x0:Qwl} {r:Qwk × Qwk × List Qwl} (h:QbF s0 s1 rd kind want keys=some r):EffC Tryz.prog 30 [.ref 9000 0 0,.agg (.d (.int .i64 kind) :: .d (.int .i64 0) :: .d (slD Qwg.enc want) :: .d (slD Qwf.enc keys) :: hwC x0)] (hwB 9000 9001 9002 9003 9004 s0 s1 rd) (.tup []) (hwB 9000 9001 5002 5003 5004 r.1 r.2.1 r.2.2):=by
  refine Q7 tOk (fn:=Tryz.f30) (c:=Qj Tryz.f30) rfl rfl ?_;unfold QbF at h;have hx1:Qu 0 0 (IntKind.i64.wrap (((2:Nat):Int) - 1))=some true:=by kernel_rfl
  (conv=>whnf);refine Qc tOk ?_;(conv=>whnf);refine QS tOk [.u 8 0 (.d (.bool true)) []] 10 [] [0,1,0,4,12,28,60,124,255,511] [] ?_;(conv=>whnf);refine And.intro ⟨⟨Tryz.f49,rfl,by kernel_rfl,by kernel_rfl⟩,⟨_,rfl,Qy hx1⟩⟩ ?_;(conv=>whnf);refine And.intro (by kernel_rfl) ?_;(conv=>whnf);refine ⟨fun h0=>(by cases h0),fun _=>?_⟩;(conv=>whnf);refine QS tOk [] 7 [] [0,1,3,7,0,16,63] [127] ?_;(conv=>whnf);refine And.intro ⟨by decide,by decide⟩ ?_;(conv=>whnf);refine And.intro (by kernel_rfl) ?_;(conv=>whnf);refine Qz h (fun _ h=>?_) (fun _ h=>?_)
  · (conv=>whnf);obtain ⟨x,hx,h⟩:=Qa h;refine cE [(9002,9001),(9001,9003),(9003,9004),(5001,6003)] 0 (Qtn 9002 2000038 [.d (.bool s0.Up)] (hsC s1 (.osl 9003 0 s1.End.Heard.length)) [(9003,heA s1.End)] (QdO hx)) ?_;(conv=>whnf);refine Qz h (fun _ h=>?_) (fun _ h=>?_)
    · (conv=>whnf);obtain ⟨y,hy,h⟩:=Qa h;obtain rfl:=sj_ h;refine cE [(9003,6003),(9004,9004),(5002,6002)] 0 (QiB (s0:=⟨s0.Up,Qg6 s0.End x.2.2⟩) (s1:=s1) hy) ?_;(conv=>whnf);exact lfE [.s [(6003,5003),(5003,6003),(9004,5004),(5004,9004),(6002,5002),(5002,6002)]]
    · (conv=>whnf);obtain rfl:=sj_ h;exact lfE [.s [(6003,5003),(5003,6003),(9004,5004),(5004,9004),(9002,5002),(5002,9002)]]
  · (conv=>whnf);refine Qz h (fun _ h=>?_) (fun _ h=>?_)
    · (conv=>whnf);obtain ⟨x,hx,h⟩:=Qa h;obtain rfl:=sj_ h;refine cE [(9002,9001),(9001,9003),(9003,9004),(5001,6003)] 0 (Qtn 9002 2000038 [.d (.bool s0.Up)] (hsC s1 (.osl 9003 0 s1.End.Heard.length)) [(9003,heA s1.End)] (Qdr hx)) ?_;(conv=>whnf);exact lfE [.s [(6003,5003),(5003,6003),(9004,5004),(5004,9004),(9002,5002),(5002,9002)]]
    · (conv=>whnf);refine Qz h (fun _ h=>?_) (fun _ h=>?_)
      · (conv=>whnf);obtain ⟨x,hx,h⟩:=Qa h;obtain rfl:=sj_ h;refine cC 6000 (Qg3 hx) ?_;(conv=>whnf);exact lfE [.f [11001,11002,11003],.s [(11004,5003),(5003,11004),(9004,5004),(5004,9004),(9002,5002),(5002,9002)]]
      · (conv=>whnf);refine Qz h (fun _ h=>?_) (fun _ h=>?_)
        · (conv=>whnf);obtain ⟨x,hx,h⟩:=Qa h;obtain rfl:=sj_ h;refine cE [(9002,9001),(9001,9003),(9003,9004),(5001,6003)] 0 (Qtn 9002 2000038 [.d (.bool true)] (hsC s1 (.osl 9003 0 s1.End.Heard.length)) [(9003,heA s1.End)] (JN hx)) ?_;(conv=>whnf);exact lfE [.s [(6003,5003),(5003,6003),(9004,5004),(5004,9004),(9002,5002),(5002,9002)]]
        · (conv=>whnf);obtain ⟨t,ht,h⟩:=Qa h;refine cG (fun c0=>Qag (Qd ht c0)) ?_;(conv=>whnf);refine Qz h (fun _ h=>?_) (fun _ h=>?_)
          · (conv=>whnf);obtain ⟨x,hx,h⟩:=Qa h;obtain rfl:=sj_ h;refine cC 6000 (Zs hx) ?_;(conv=>whnf);exact lfE [.f [11001],.s [(9003,5003),(5003,9003),(9004,5004),(5004,9004),(9002,5002),(5002,9002)]]
          · (conv=>whnf);obtain ⟨t2,ht2,h⟩:=Qa h;refine cG (fun c0=>Qbq (Qd ht2 c0)) ?_;(conv=>whnf);refine Qz h (fun _ h=>?_) (fun _ h=>?_)
            · (conv=>whnf);obtain ⟨y,hy,h⟩:=Qa h;obtain ⟨x,hx,h⟩:=Qa h;obtain rfl:=sj_ h;refine QaG tOk [.l 0 [(2,.box 78 [.ref 9000 0 0])] (.ref 9000 0 0),.l 1 [(2,.box 78 [.ref 9000 0 0])] (.ref 9000 0 0),.l 4 [(9000,.box 26 [.osl 9001 0 2,.osl 9002 0 rd.length])] (.osl 9002 0 rd.length),.x 6 [(2,.box 78 [.ref 9000 0 0]),(9000,.box 26 [.osl 9001 0 2,.osl 9002 0 rd.length]),(9001,hwS 9003 9004 s0 s1),(9002,hwR rd),(9003,heA s0.End),(9004,heA s1.End)] (.osl 6002 0 y.length) [] [(6002,hwR y),(2,.box 78 [.ref 9000 0 0]),(9000,.box 26 [.osl 9001 0 2,.any]),(9001,hwS 9003 9004 s0 s1),(9003,heA s0.End),(9004,heA s1.End)] [2]] 7 [] [0,0,2,6,14,0,62] [127,255,511] [2,9000,9001,9002,9003,9004] ?_;(conv=>whnf);refine And.intro (by (conv=>whnf); exact ⟨by kernel_rfl,by kernel_rfl⟩) ?_;(conv=>whnf);refine And.intro (by (conv=>whnf); exact ⟨by kernel_rfl,by kernel_rfl⟩) ?_;(conv=>whnf);refine And.intro (by (conv=>whnf); exact ⟨by kernel_rfl,by kernel_rfl⟩) ?_;(conv=>whnf);refine And.intro (eH [(9005,2),(5002,6002)] 0 (Qoc hy)) ?_;(conv=>whnf);refine And.intro (by kernel_rfl) ?_;(conv=>whnf);refine cC 6000 (Qau hx) ?_;(conv=>whnf);exact lfE [.f [11001],.s [(9003,5003),(5003,9003),(9004,5004),(5004,9004),(6002,5002),(5002,6002)]]
            · (conv=>whnf);obtain rfl:=sj_ h;exact lfE [.s [(9003,5003),(5003,9003),(9004,5004),(5004,9004),(9002,5002),(5002,9002)]]
noncomputable def QbG (s0 s1:Qwk) (rd:List Qwl) (kind:Int) (want:List Qwg) (keys:List Qwf):Option (Qwk × Qwk × List Qwl) :=
(if ((kind == 1) && s1.Up)=true then
 bd (Jw s1.End) fun x =>
(if x.2.1=true then
 bd (Qd5 rd x.1) fun y=>some (s0,⟨s1.Up,Qg6 s1.End x.2.2⟩,y)
else
 some (s0,⟨s1.Up,Qg6 s1.End x.2.2⟩,rd))
else
(if ((kind == 5) && s1.Up)=true then
 bd (ZX s1.End) fun x=>some (s0,⟨s1.Up,Qg6 s1.End x⟩,rd)
else
(if (kind == 6)=true then
 bd (QbR s1.End) fun x=>some (s0,⟨false,x⟩,rd)
else
(if ((kind == 7) && (!s1.Up))=true then
 bd (Zc s1.End) fun x=>some (s0,⟨true,Qg6 s1.End x⟩,rd)
else
 bd (gcall ((kind == 8)=true) (Zr want)) fun t =>
(if ((kind == 8) && t)=true then
 bd (QF want) fun x=>some (s0,⟨s1.Up,{ s1.End with Want:=x }⟩,rd)
else
 bd (gcall ((kind == 9)=true) (ZZ keys)) fun t2 =>
(if ((kind == 9) && t2)=true then
 bd (QfU s0 s1 rd) fun y =>
 bd (Zp keys) fun x=>some (s0,⟨s1.Up,{ s1.End with Keys:=x }⟩,y)
else
 some (s0,s1,rd)))))))
theorem Qft {s0 s1:Qwk} {rd:List Qwl} {kind:Int} {want:List Qwg} {keys:List Qwf} {x0:Qwl} {r:Qwk × Qwk × List Qwl} (h:QbG s0 s1 rd kind want keys=some r):EffC Tryz.prog 30 [.ref 9000 0 0,.agg (.d (.int .i64 kind) :: .d (.int .i64 1) :: .d (slD Qwg.enc want) :: .d (slD Qwf.enc keys) :: hwC x0)] (hwB 9000 9001 9002 9003 9004 s0 s1 rd) (.tup []) (hwB 9000 9001 5002 5003 5004 r.1 r.2.1 r.2.2):=by
  refine Q7 tOk (fn:=Tryz.f30) (c:=Qj Tryz.f30) rfl rfl ?_;unfold QbG at h;have hx1:Qu 1 0 (IntKind.i64.wrap (((2:Nat):Int) - 1))=some true:=by kernel_rfl
  (conv=>whnf);refine Qc tOk ?_;(conv=>whnf);refine QS tOk [.u 8 0 (.d (.bool true)) []] 10 [] [0,1,0,4,12,28,60,124,255,511] [] ?_;(conv=>whnf);refine And.intro ⟨⟨Tryz.f49,rfl,by kernel_rfl,by kernel_rfl⟩,⟨_,rfl,Qy hx1⟩⟩ ?_;(conv=>whnf);refine And.intro (by kernel_rfl) ?_;(conv=>whnf);refine ⟨fun h0=>(by cases h0),fun _=>?_⟩;(conv=>whnf);refine QS tOk [] 7 [] [0,1,3,7,0,16,63] [127] ?_;(conv=>whnf);refine And.intro ⟨by decide,by decide⟩ ?_;(conv=>whnf);refine And.intro (by kernel_rfl) ?_;(conv=>whnf);refine Qz h (fun _ h=>?_) (fun _ h=>?_)
  · (conv=>whnf);obtain ⟨x,hx,h⟩:=Qa h;refine cE [(9002,9001),(9001,9004),(9003,9003),(5001,6003)] 0 (Qtn 9002 2000038 (hsC s0 (.osl 9003 0 s0.End.Heard.length) ++ [.d (.bool s1.Up)]) [] [(9003,heA s0.End)] (QdO hx)) ?_;(conv=>whnf);refine Qz h (fun _ h=>?_) (fun _ h=>?_)
    · (conv=>whnf);obtain ⟨y,hy,h⟩:=Qa h;obtain rfl:=sj_ h;refine cE [(9003,9003),(9004,6003),(5002,6002)] 0 (QiB (s0:=s0) (s1:=⟨s1.Up,Qg6 s1.End x.2.2⟩) hy) ?_;(conv=>whnf);exact lfE [.s [(6003,5004),(5004,6003),(9003,5003),(5003,9003),(6002,5002),(5002,6002)]]
    · (conv=>whnf);obtain rfl:=sj_ h;exact lfE [.s [(6003,5004),(5004,6003),(9003,5003),(5003,9003),(9002,5002),(5002,9002)]]
  · (conv=>whnf);refine Qz h (fun _ h=>?_) (fun _ h=>?_)
    · (conv=>whnf);obtain ⟨x,hx,h⟩:=Qa h;obtain rfl:=sj_ h;refine cE [(9002,9001),(9001,9004),(9003,9003),(5001,6003)] 0 (Qtn 9002 2000038 (hsC s0 (.osl 9003 0 s0.End.Heard.length) ++ [.d (.bool s1.Up)]) [] [(9003,heA s0.End)] (Qdr hx)) ?_;(conv=>whnf);exact lfE [.s [(6003,5004),(5004,6003),(9003,5003),(5003,9003),(9002,5002),(5002,9002)]]
    · (conv=>whnf);refine Qz h (fun _ h=>?_) (fun _ h=>?_)
      · (conv=>whnf);obtain ⟨x,hx,h⟩:=Qa h;obtain rfl:=sj_ h;refine cC 6000 (Qg3 hx) ?_;(conv=>whnf);exact lfE [.f [11001,11002,11003],.s [(11004,5004),(5004,11004),(9003,5003),(5003,9003),(9002,5002),(5002,9002)]]
      · (conv=>whnf);refine Qz h (fun _ h=>?_) (fun _ h=>?_)
        · (conv=>whnf);obtain ⟨x,hx,h⟩:=Qa h;obtain rfl:=sj_ h;refine cE [(9002,9001),(9001,9004),(9003,9003),(5001,6003)] 0 (Qtn 9002 2000038 (hsC s0 (.osl 9003 0 s0.End.Heard.length) ++ [.d (.bool true)]) [] [(9003,heA s0.End)] (JN hx)) ?_;(conv=>whnf);exact lfE [.s [(6003,5004),(5004,6003),(9003,5003),(5003,9003),(9002,5002),(5002,9002)]]
        · (conv=>whnf);obtain ⟨t,ht,h⟩:=Qa h;refine cG (fun c0=>Qag (Qd ht c0)) ?_;(conv=>whnf);refine Qz h (fun _ h=>?_) (fun _ h=>?_)
          · (conv=>whnf);obtain ⟨x,hx,h⟩:=Qa h;obtain rfl:=sj_ h;refine cC 6000 (Zs hx) ?_;(conv=>whnf);exact lfE [.f [11001],.s [(9004,5004),(5004,9004),(9003,5003),(5003,9003),(9002,5002),(5002,9002)]]
          · (conv=>whnf);obtain ⟨t2,ht2,h⟩:=Qa h;refine cG (fun c0=>Qbq (Qd ht2 c0)) ?_;(conv=>whnf);refine Qz h (fun _ h=>?_) (fun _ h=>?_)
            · (conv=>whnf);obtain ⟨y,hy,h⟩:=Qa h;obtain ⟨x,hx,h⟩:=Qa h;obtain rfl:=sj_ h;refine QaG tOk [.l 0 [(2,.box 78 [.ref 9000 0 0])] (.ref 9000 0 0),.l 1 [(2,.box 78 [.ref 9000 0 0])] (.ref 9000 0 0),.l 4 [(9000,.box 26 [.osl 9001 0 2,.osl 9002 0 rd.length])] (.osl 9002 0 rd.length),.x 6 [(2,.box 78 [.ref 9000 0 0]),(9000,.box 26 [.osl 9001 0 2,.osl 9002 0 rd.length]),(9001,hwS 9003 9004 s0 s1),(9002,hwR rd),(9003,heA s0.End),(9004,heA s1.End)] (.osl 6002 0 y.length) [] [(6002,hwR y),(2,.box 78 [.ref 9000 0 0]),(9000,.box 26 [.osl 9001 0 2,.any]),(9001,hwS 9003 9004 s0 s1),(9003,heA s0.End),(9004,heA s1.End)] [2]] 7 [] [0,0,2,6,14,0,62] [127,255,511] [2,9000,9001,9002,9003,9004] ?_;(conv=>whnf);refine And.intro (by (conv=>whnf); exact ⟨by kernel_rfl,by kernel_rfl⟩) ?_;(conv=>whnf);refine And.intro (by (conv=>whnf); exact ⟨by kernel_rfl,by kernel_rfl⟩) ?_;(conv=>whnf);refine And.intro (by (conv=>whnf); exact ⟨by kernel_rfl,by kernel_rfl⟩) ?_;(conv=>whnf);refine And.intro (eH [(9005,2),(5002,6002)] 0 (Qoc hy)) ?_;(conv=>whnf);refine And.intro (by kernel_rfl) ?_;(conv=>whnf);refine cC 6000 (Qau hx) ?_;(conv=>whnf);exact lfE [.f [11001],.s [(9004,5004),(5004,9004),(9003,5003),(5003,9003),(6002,5002),(5002,6002)]]
            · (conv=>whnf);obtain rfl:=sj_ h;exact lfE [.s [(9004,5004),(5004,9004),(9003,5003),(5003,9003),(9002,5002),(5002,9002)]]
theorem Qmb {s0 s1:Qwk} {rd:List Qwl} {kind at_:Int} {want:List Qwg} {keys:List Qwf} {x0:Qwl} (hx1:Qu at_ 0 (IntKind.i64.wrap (((2:Nat):Int) - 1))=some false):EffC Tryz.prog 30 [.ref 9000 0 0,.agg (.d (.int .i64 kind) :: .d (.int .i64 at_) :: .d (slD Qwg.enc want) :: .d (slD Qwf.enc keys) :: hwC x0)] (hwB 9000 9001 9002 9003 9004 s0 s1 rd) (.tup []) (hwB 9000 9001 9002 9003 9004 s0 s1 rd):=by
  refine Q7 tOk (fn:=Tryz.f30) (c:=Qj Tryz.f30) rfl rfl ?_;(conv=>whnf);refine Qc tOk ?_;(conv=>whnf);refine QS tOk [.u 8 0 (.d (.bool false)) []] 10 [] [0,1,0,4,12,28,60,124,255,511] [] ?_;(conv=>whnf);refine And.intro ⟨⟨Tryz.f49,rfl,by kernel_rfl,by kernel_rfl⟩,⟨_,rfl,Qy hx1⟩⟩ ?_;(conv=>whnf);refine And.intro (by kernel_rfl) ?_;(conv=>whnf);refine ⟨fun _=>?_,fun h0=>by cases h0⟩;(conv=>whnf);exact lfE []
noncomputable def QdP (p q:Qwk) (rd:List Qwl) (kind at_:Int) (want:List Qwg) (keys:List Qwf) (word:Qwl):Option (Qwk × Qwk × List Qwl) :=
 bd (Qen p q rd) fun c =>
(if (kind == 2)=true then
 QbE c.1 c.2.1 c.2.2 kind at_
else
(if (kind == 3)=true then
 QbE c.1 c.2.1 c.2.2 kind at_
else
(if (kind == 4)=true then
 QbE c.1 c.2.1 c.2.2 kind at_
else
(if (kind == 10)=true then
 bd (Jl word) fun b =>
 bd (gcall (b=true) (Qep c.1 c.2.1 word)) fun b2 =>
(if (b && (!b2))=true then
 bd (Qd5 c.2.2 word) fun y=>some (c.1,c.2.1,y)
else
 some c)
else
(if (at_ == 0)=true then
 QbF c.1 c.2.1 c.2.2 kind want keys
else
(if (at_ == 1)=true then
 QbG c.1 c.2.1 c.2.2 kind want keys
else
 bd (Qu at_ 0 (IntKind.i64.wrap (((2:Nat):Int) - 1))) fun b =>
(if b=true then none else some c)))))))
theorem Qqi {p q:Qwk} {rd:List Qwl} {kind at_:Int} {want:List Qwg} {keys:List Qwf} {word:Qwl} {r:Qwk × Qwk × List Qwl} (h0:Q9 ⟨[p,q],rd⟩=some true) (h:QdP p q rd kind at_ want keys word=some r):EffC Tryz.prog 9 [.agg [.d (slD Qwk.enc [p,q]),.d (slD Qwl.enc rd)],.agg (.d (.int .i64 kind) :: .d (.int .i64 at_) :: .d (slD Qwg.enc want) :: .d (slD Qwf.enc keys) :: hwC word)] [] (.agg [.d (slD Qwk.enc [r.1,r.2.1]),.d (slD Qwl.enc r.2.2)]) []:=by
  refine Q7 tOk (fn:=Tryz.f9) (c:=Qj Tryz.f9) rfl rfl ?_;unfold QdP at h;(conv=>whnf);refine Qc tOk ?_;(conv=>whnf);refine cC 0 (Jv h0) ?_;(conv=>whnf);refine ⟨fun h0=>(by cases h0),fun _=>?_⟩;(conv=>whnf);obtain ⟨c,hc,h⟩:=Qa h;refine cE [(5001,6001),(5002,6002),(5003,6003),(5004,6004)] 0 (Ql9 hc) ?_;(conv=>whnf);refine Qc tOk ?_;(conv=>whnf);refine Qc tOk ?_;(conv=>whnf);refine Qz h (fun hk h=>?_) (fun hk h=>?_)
  · (conv=>whnf);refine ⟨fun _=>?_,fun h1=>by rw [hk] at h1; cases h1⟩;(conv=>whnf);refine cE [(9000,5),(9001,6001),(9002,6002),(9003,6003),(9004,6004),(5002,7002),(5003,7003),(5004,7004)] 0 (QeJ h) ?_;(conv=>whnf);exact lfE [.f [7003,7004,7002,6001]]
  · (conv=>whnf);refine Qz h (fun hk h=>?_) (fun hk h=>?_)
    · (conv=>whnf);refine ⟨fun _=>?_,fun h1=>by rw [hk] at h1; cases h1⟩;(conv=>whnf);refine cE [(9000,5),(9001,6001),(9002,6002),(9003,6003),(9004,6004),(5002,7002),(5003,7003),(5004,7004)] 0 (QeJ h) ?_;(conv=>whnf);exact lfE [.f [7003,7004,7002,6001]]
    · (conv=>whnf);refine spI h (fun hk h=>?_) (fun hk h=>?_)
      · refine ⟨fun _=>?_,fun h1=>by rw [hk] at h1; cases h1⟩;(conv=>whnf);refine cE [(9000,5),(9001,6001),(9002,6002),(9003,6003),(9004,6004),(5002,7002),(5003,7003),(5004,7004)] 0 (QeJ h) ?_;(conv=>whnf);exact lfE [.f [7003,7004,7002,6001]]
      · refine ⟨fun h1=>(by rw [hk] at h1; cases h1),fun _=>?_⟩;(conv=>whnf);refine Qz h (fun hk2 h=>?_) (fun hk2 h=>?_)
        · (conv=>whnf);obtain ⟨b,hb,h⟩:=Qa h;refine cC 0 (Qcu hb) ?_;(conv=>whnf);obtain ⟨b2,hb2,h⟩:=Qa h;refine cG (fun c0=>Qkm (rd:=c.2.2) (Qd hb2 c0)) ?_;(conv=>whnf);refine Qz h (fun _ h=>?_) (fun _ h=>?_)
          · (conv=>whnf);obtain ⟨y,hy,h⟩:=Qa h;obtain rfl:=sj_ h;refine cE [(9000,5),(9001,6001),(9002,6002),(9003,6003),(9004,6004),(5002,7002)] 0 (QiB (s0:=c.1) (s1:=c.2.1) hy) ?_;(conv=>whnf);exact lfE [.f [6003,6004,7002,6001]]
          · (conv=>whnf);obtain rfl:=sj_ h;exact lfE [.f [6003,6004,6002,6001]]
        · (conv=>whnf);refine spI h (fun hz h=>?_) (fun hz h=>?_)
          · obtain rfl:at_=0:=by simpa using hz
            refine cE [(9000,5),(9001,6001),(9002,6002),(9003,6003),(9004,6004),(5002,7002),(5003,7003),(5004,7004)] 0 (Qfs h) ?_;(conv=>whnf);exact lfE [.f [7003,7004,7002,6001]]
          · refine spI h (fun hz h=>?_) (fun hz h=>?_)
            · obtain rfl:at_=1:=by simpa using hz
              refine cE [(9000,5),(9001,6001),(9002,6002),(9003,6003),(9004,6004),(5002,7002),(5003,7003),(5004,7004)] 0 (Qft h) ?_;(conv=>whnf);exact lfE [.f [7003,7004,7002,6001]]
            · obtain ⟨b,hb,h⟩:=Qa h;refine spI h (fun hz h=>by cases h) (fun hz h=>?_);obtain rfl:=sj_ h;subst hz;refine cE [(9000,5),(9001,6001),(9002,6002),(9003,6003),(9004,6004)] 0 (Qmb hb) ?_;(conv=>whnf);exact lfE [.f [6003,6004,6002,6001]]
@[reducible] def Qu5 (n:Int):Int:=(if 100<(if 0 > n then 0 else n) then 100 else (if 0 > n then 0 else n))
@[reducible] def Qsc:Qwl:=⟨0,0,0,0,0,0,0,0,⟨0,⟨0,0,0,0⟩⟩,0⟩
noncomputable def Qkn (s:Qwk × Qwk × List Qwl):Option (Qwk × Qwk × List Qwl) :=
 bd (Qdw s.1 s.2.1 s.2.2) fun a =>
 bd (QbF a.1 a.2.1 a.2.2 1 [] []) fun b =>
 bd (QbG b.1 b.2.1 b.2.2 1 [] []) fun c =>
 bd (Qdw c.1 c.2.1 c.2.2) fun d =>
 bd (QbF d.1 d.2.1 d.2.2 5 [] []) fun e =>
 QbG e.1 e.2.1 e.2.2 5 [] []
noncomputable def Qg7 (p q:Qwk) (rd:List Qwl) (n:Int):Option (Qwk × Qwk × List Qwl) :=
 bd (Qen p q rd) fun c =>
 lp (σ:=(Qwk × Qwk × List Qwl) × Int) (β:=Qwk × Qwk × List Qwl) (fun s =>
(if (decide (s.2<Qu5 n))=true then
 bd (Qkn s.1) fun y=>some (.inl (y,IntKind.i64.wrap (s.2+1)))
else
 some (.inr s.1))) (c,0)
theorem Qqj {p q:Qwk} {rd:List Qwl} {n:Int} {r:Qwk × Qwk × List Qwl} (h0:Q9 ⟨[p,q],rd⟩=some true) (h:Qg7 p q rd n=some r):EffC Tryz.prog 10 [.agg [.d (slD Qwk.enc [p,q]),.d (slD Qwl.enc rd)],.d (.int .i64 n)] [] (.agg [.d (slD Qwk.enc [r.1,r.2.1]),.d (slD Qwl.enc r.2.2)]) []:=by
  refine Q7 tOk (fn:=Tryz.f10) (c:=Qj Tryz.f10) rfl rfl ?_;unfold Qg7 at h;(conv=>whnf);refine Qc tOk ?_;(conv=>whnf);refine cC 0 (Jv h0) ?_;(conv=>whnf);refine ⟨fun h0=>(by cases h0),fun _=>?_⟩;(conv=>whnf);obtain ⟨c,hc,h⟩:=Qa h;refine cE [(5001,6001),(5002,6002),(5003,6003),(5004,6004)] 0 (Ql9 hc) ?_;(conv=>whnf);refine Qc tOk ?_;(conv=>whnf);refine Zj tOk h (fun s=>⟨0,Tryz.f10.ntmps,[(4,.ref 4 0 0),(5,.ref 5 0 0),(16,.d (.int .i64 (Qu5 n))),(17,.d (.int .i64 s.2))],[],(4,.box 26 [.d .nil,.d .nil]) :: hwB 5 6001 6002 6003 6004 s.1.1 s.1.2.1 s.1.2.2,[⟨[],[]⟩]⟩) ?_ ?_
  · exact leX []
  · clear h;intro s y g hy;(conv=>whnf);refine Qc tOk ?_;(conv=>whnf);refine Qz g (fun _ g=>?_) (fun _ g=>?_)
    · (conv=>whnf);obtain ⟨z,hz,g⟩:=Qa g;obtain rfl:=sj_ g;unfold Qkn at hz;obtain ⟨a1,ha1,hz⟩:=Qa hz;obtain ⟨a2,ha2,hz⟩:=Qa hz;obtain ⟨a3,ha3,hz⟩:=Qa hz;obtain ⟨a4,ha4,hz⟩:=Qa hz;obtain ⟨a5,ha5,hz⟩:=Qa hz;refine Qc tOk ?_;(conv=>whnf);refine cE [(9000,5),(9001,6001),(9002,6002),(9003,6003),(9004,6004),(5002,7002),(5003,7003),(5004,7004)] 0 (Qg4 ha1) ?_;(conv=>whnf);refine Qc tOk ?_;(conv=>whnf);refine Qob tOk 3 ?_;(conv=>whnf);refine Qc tOk ?_;(conv=>whnf);refine ⟨fun _=>?_,fun h0=>by cases h0⟩;(conv=>whnf);refine Qc tOk ?_;(conv=>whnf);refine cE [(9000,5),(9001,6001),(9002,7002),(9003,7003),(9004,7004),(5002,8002),(5003,8003),(5004,8004)] 0 (Qfs (x0:=Qsc) ha2) ?_;(conv=>whnf);refine Qc tOk ?_;(conv=>whnf);refine ⟨fun _=>?_,fun h0=>by cases h0⟩;(conv=>whnf);refine Qc tOk ?_;(conv=>whnf);refine cE [(9000,5),(9001,6001),(9002,8002),(9003,8003),(9004,8004),(5002,9002),(5003,9003),(5004,9004)] 0 (Qft (x0:=Qsc) ha3) ?_;(conv=>whnf);refine Qc tOk ?_;(conv=>whnf);refine ⟨fun h0=>(by cases h0),fun _=>?_⟩;(conv=>whnf);refine cE [(9000,5),(9001,6001),(9002,9002),(9003,9003),(9004,9004),(5002,10002),(5003,10003),(5004,10004)] 0 (Qg4 ha4) ?_;(conv=>whnf);refine Qob tOk 3 ?_;(conv=>whnf);refine Qc tOk ?_;(conv=>whnf);refine ⟨fun _=>?_,fun h0=>by cases h0⟩;(conv=>whnf);refine Qc tOk ?_;(conv=>whnf);refine cE [(9000,5),(9001,6001),(9002,10002),(9003,10003),(9004,10004),(5002,11002),(5003,11003),(5004,11004)] 0 (Qfs (x0:=Qsc) ha5) ?_;(conv=>whnf);refine Qc tOk ?_;(conv=>whnf);refine ⟨fun _=>?_,fun h0=>by cases h0⟩;(conv=>whnf);refine Qc tOk ?_;(conv=>whnf);refine cE [(9000,5),(9001,6001),(9002,11002),(9003,11003),(9004,11004),(5002,12002),(5003,12003),(5004,12004)] 0 (Qft (x0:=Qsc) hz) ?_;(conv=>whnf);refine Qc tOk ?_;(conv=>whnf);refine ⟨fun h0=>(by cases h0),fun _=>?_⟩;(conv=>whnf);exact ⟨_,rfl,leX [.s [(12002,6002),(6002,12002),(12003,6003),(6003,12003),(12004,6004),(6004,12004)]]⟩
    · (conv=>whnf);obtain rfl:=sj_ g;obtain rfl:=hy _ rfl;exact lfE [.f [6003,6004,6002,6001]]
noncomputable def Qgh (a0:Qwm) (n:Int):Option Qwm :=
 bd (Q9 a0) fun b =>
(if (!b)=true then
 some (⟨[],[]⟩:Qwm)
else
(match a0 with
| ⟨[p,q],rd⟩=>bd (Qg7 p q rd n) fun z=>some (⟨[z.1,z.2.1],z.2.2⟩:Qwm)
| _=>none))
theorem Qr6 {a0 r:Qwm} {n:Int} (h:Qgh a0 n=some r):EffC Tryz.prog 10 [.agg [.d (slD Qwk.enc a0.Sides),.d (slD Qwl.enc a0.Radio)],.d (.int .i64 n)] [] (.agg [.d (slD Qwk.enc r.Sides),.d (slD Qwl.enc r.Radio)]) []:=by
  unfold Qgh at h;obtain ⟨b,hb,h⟩:=Qa h;cases b with
  | false =>
    obtain rfl:=sj_ h;refine Q7 tOk (fn:=Tryz.f10) (c:=Qj Tryz.f10) rfl rfl ?_;(conv=>whnf);refine Qc tOk ?_;(conv=>whnf);refine cC 0 (Jv hb) ?_;(conv=>whnf);refine ⟨fun _=>?_,fun h0=>by cases h0⟩;(conv=>whnf);exact lfE []
  | true =>
    obtain ⟨sides,rd⟩:=a0;cases sides with
    | nil=>cases h
    | cons p l=>cases l with
      | nil=>cases h
      | cons q l=>cases l with
        | cons _ _=>cases h
        | nil =>
          obtain ⟨z,hz,h⟩:=Qa (show bd (Qg7 p q rd n) (fun z=>some (⟨[z.1,z.2.1],z.2.2⟩:Qwm))=some r from h);obtain rfl:=sj_ h;exact Qqj hb hz
noncomputable def QcZ (a0:Qwm) (kind at_:Int) (want:List Qwg) (keys:List Qwf) (word:Qwl):Option Qwm :=
 bd (Q9 a0) fun b =>
(if (!b)=true then
 some (⟨[],[]⟩:Qwm)
else
(match a0 with
| ⟨[p,q],rd⟩=>bd (QdP p q rd kind at_ want keys word) fun z=>some (⟨[z.1,z.2.1],z.2.2⟩:Qwm)
| _=>none))
theorem Qke {a0 r:Qwm} {kind at_:Int} {want:List Qwg} {keys:List Qwf} {word:Qwl} (h:QcZ a0 kind at_ want keys word=some r):EffC Tryz.prog 9 [.agg [.d (slD Qwk.enc a0.Sides),.d (slD Qwl.enc a0.Radio)],.agg (.d (.int .i64 kind) :: .d (.int .i64 at_) :: .d (slD Qwg.enc want) :: .d (slD Qwf.enc keys) :: hwC word)] [] (.agg [.d (slD Qwk.enc r.Sides),.d (slD Qwl.enc r.Radio)]) []:=by
  unfold QcZ at h;obtain ⟨b,hb,h⟩:=Qa h;cases b with
  | false =>
    obtain rfl:=sj_ h;refine Q7 tOk (fn:=Tryz.f9) (c:=Qj Tryz.f9) rfl rfl ?_;(conv=>whnf);refine Qc tOk ?_;(conv=>whnf);refine cC 0 (Jv hb) ?_;(conv=>whnf);refine ⟨fun _=>?_,fun h0=>by cases h0⟩;(conv=>whnf);exact lfE []
  | true =>
    obtain ⟨sides,rd⟩:=a0;cases sides with
    | nil=>cases h
    | cons p l=>cases l with
      | nil=>cases h
      | cons q l=>cases l with
        | cons _ _=>cases h
        | nil =>
          obtain ⟨z,hz,h⟩:=Qa (show bd (QdP p q rd kind at_ want keys word) (fun z=>some (⟨[z.1,z.2.1],z.2.2⟩:Qwm))=some r from h);obtain rfl:=sj_ h;exact Qqi hb hz
noncomputable def Qa8 (a0:Qwm) (a1:Qwn):Option (Qwm) :=
 QcZ a0 a1.Kind a1.At a1.Want a1.Keys a1.Word
theorem Qiw {a0:Qwm} {a1:Qwn} {r:Qwm} (h:Qa8 a0 a1=some r):EffC Tryz.prog 9 [.agg [.d (slD Qwk.enc a0.Sides),.d (slD Qwl.enc a0.Radio)],.agg (dI a1.Kind :: dI a1.At :: .d (slD Qwg.enc a1.Want) :: .d (slD Qwf.enc a1.Keys) :: hwC a1.Word)] [] (.agg [.d (slD Qwk.enc r.Sides),.d (slD Qwl.enc r.Radio)]) []:=by
  unfold Qa8 at h;exact Qke h
noncomputable def Qcy (a0:(List Qwf)) (a1:(List Qwf)):Option (Bool) :=
(if (((a0.length:Nat):Int) != ((a1.length:Nat):Int))=true then
 some false
else
 bd (lp (σ:=Int) (β:=(Unit ⊕ Unit)) (fun s1 =>
(if (decide (s1<((a0.length:Nat):Int)))=true then
 gd ((0:Int)≤s1∧s1<((a0.length:Nat):Int)) <|
 gd ((0:Int)≤s1∧s1<((a1.length:Nat):Int)) <|
(if (!((((a0.getD s1.toNat default).Id) == ((a1.getD s1.toNat default).Id)) && ((((a0.getD s1.toNat default).Secret) == ((a1.getD s1.toNat default).Secret)) && true)))=true then
 some (.inr (.inl ()))
else
 some (.inl (IntKind.i64.wrap (s1+1))))
else
 some (.inr (.inr ())))) 0) fun x4 =>
(match x4 with
| .inl d7 =>
 some false
| .inr d8 =>
 some true))
theorem Qlg {a0:(List Qwf)} {a1:(List Qwf)} {r:Bool} (h:Qcy a0 a1=some r):PureC Tryz.prog 73 [.d (slD Qwf.enc a0),.d (slD Qwf.enc a1)] (dB r) []:=by
  refine Qq tOk (fn:=Tryz.f73) (c:=Qj Tryz.f73) rfl rfl ?_;unfold Qcy at h;(conv=>whnf);refine Qc tOk ?_;(conv=>whnf);refine Qz h (fun _ h=>?_) (fun _ h=>?_)
  · (conv=>whnf);obtain rfl:=sj_ h;exact lfP []
  · (conv=>whnf);refine Qc tOk ?_;(conv=>whnf);obtain ⟨x4,hx4,h⟩:=Qa h;refine Zj tOk hx4 (fun s1=>⟨0,26,[(0,.d (slD Qwf.enc a0)),(1,.d (slD Qwf.enc a1)),(5,dI s1)],[],[],[]⟩) ?_ ?_
    · exact leX []
    · clear hx4;intro s1 y2 g3 hy2;(conv=>whnf);refine Qc tOk ?_;(conv=>whnf);refine Qz g3 (fun _ g3=>?_) (fun _ g3=>?_)
      · (conv=>whnf);refine Qc tOk ?_;(conv=>whnf);obtain ⟨g5,g3⟩:=Qf g3;obtain ⟨g6,g3⟩:=Qf g3;refine QS tOk [] 9 [] [0,0,3,7,0,0,48,112,255] [] ?_;(conv=>whnf);refine And.intro g5 ?_;clear g5;(conv=>whnf);refine And.intro g6 ?_;clear g6;(conv=>whnf);refine And.intro (by kernel_rfl) ?_;(conv=>whnf);refine Qz g3 (fun _ g3=>?_) (fun _ g3=>?_)
        · (conv=>whnf);obtain rfl:=sj_ g3;obtain rfl:=hy2 _ rfl;obtain rfl:=sj_ h;exact lfP []
        · (conv=>whnf);obtain rfl:=sj_ g3;exact ⟨_,rfl,leX []⟩
      · (conv=>whnf);obtain rfl:=sj_ g3;obtain rfl:=hy2 _ rfl;obtain rfl:=sj_ h;exact lfP []
noncomputable def Qbj (a0:(List Qwg)) (a1:(List Qwg)):Option (Bool) :=
(if (((a0.length:Nat):Int) != ((a1.length:Nat):Int))=true then
 some false
else
 bd (lp (σ:=Int) (β:=(Unit ⊕ Unit)) (fun s1 =>
(if (decide (s1<((a0.length:Nat):Int)))=true then
 gd ((0:Int)≤s1∧s1<((a0.length:Nat):Int)) <|
 gd ((0:Int)≤s1∧s1<((a1.length:Nat):Int)) <|
(if (!((((a0.getD s1.toNat default).Addr) == ((a1.getD s1.toNat default).Addr)) && ((((a0.getD s1.toNat default).Len) == ((a1.getD s1.toNat default).Len)) && ((((a0.getD s1.toNat default).Cost) == ((a1.getD s1.toNat default).Cost)) && ((((a0.getD s1.toNat default).Label) == ((a1.getD s1.toNat default).Label)) && true)))))=true then
 some (.inr (.inl ()))
else
 some (.inl (IntKind.i64.wrap (s1+1))))
else
 some (.inr (.inr ())))) 0) fun x4 =>
(match x4 with
| .inl d7 =>
 some false
| .inr d8 =>
 some true))
theorem Qgi {a0:(List Qwg)} {a1:(List Qwg)} {r:Bool} (h:Qbj a0 a1=some r):PureC Tryz.prog 11 [.d (slD Qwg.enc a0),.d (slD Qwg.enc a1)] (dB r) []:=by
  refine Qq tOk (fn:=Tryz.f11) (c:=Qj Tryz.f11) rfl rfl ?_;unfold Qbj at h;(conv=>whnf);refine Qc tOk ?_;(conv=>whnf);refine Qz h (fun _ h=>?_) (fun _ h=>?_)
  · (conv=>whnf);obtain rfl:=sj_ h;exact lfP []
  · (conv=>whnf);refine Qc tOk ?_;(conv=>whnf);obtain ⟨x4,hx4,h⟩:=Qa h;refine Zj tOk hx4 (fun s1=>⟨0,26,[(0,.d (slD Qwg.enc a0)),(1,.d (slD Qwg.enc a1)),(5,dI s1)],[],[],[]⟩) ?_ ?_
    · exact leX []
    · clear hx4;intro s1 y2 g3 hy2;(conv=>whnf);refine Qc tOk ?_;(conv=>whnf);refine Qz g3 (fun _ g3=>?_) (fun _ g3=>?_)
      · (conv=>whnf);refine Qc tOk ?_;(conv=>whnf);obtain ⟨g5,g3⟩:=Qf g3;obtain ⟨g6,g3⟩:=Qf g3;refine QS tOk [] 9 [] [0,0,3,7,0,0,48,112,255] [] ?_;(conv=>whnf);refine And.intro g5 ?_;clear g5;(conv=>whnf);refine And.intro g6 ?_;clear g6;(conv=>whnf);refine And.intro (by kernel_rfl) ?_;(conv=>whnf);refine Qz g3 (fun _ g3=>?_) (fun _ g3=>?_)
        · (conv=>whnf);obtain rfl:=sj_ g3;obtain rfl:=hy2 _ rfl;obtain rfl:=sj_ h;exact lfP []
        · (conv=>whnf);obtain rfl:=sj_ g3;exact ⟨_,rfl,leX []⟩
      · (conv=>whnf);obtain rfl:=sj_ g3;obtain rfl:=hy2 _ rfl;obtain rfl:=sj_ h;exact lfP []
noncomputable def QbH (a0:(List Qwi)) (a1:(List Qwi)):Option (Bool) :=
(if (((a0.length:Nat):Int) != ((a1.length:Nat):Int))=true then
 some false
else
 bd (lp (σ:=Int) (β:=(Unit ⊕ Unit)) (fun s1 =>
(if (decide (s1<((a0.length:Nat):Int)))=true then
 gd ((0:Int)≤s1∧s1<((a0.length:Nat):Int)) <|
 gd ((0:Int)≤s1∧s1<((a1.length:Nat):Int)) <|
(if (!((((((a0.getD s1.toNat default).Entry).Addr) == (((a1.getD s1.toNat default).Entry).Addr)) && (((((a0.getD s1.toNat default).Entry).Len) == (((a1.getD s1.toNat default).Entry).Len)) && (((((a0.getD s1.toNat default).Entry).Cost) == (((a1.getD s1.toNat default).Entry).Cost)) && (((((a0.getD s1.toNat default).Entry).Label) == (((a1.getD s1.toNat default).Entry).Label)) && true)))) && ((((a0.getD s1.toNat default).Stale) == ((a1.getD s1.toNat default).Stale)) && true)))=true then
 some (.inr (.inl ()))
else
 some (.inl (IntKind.i64.wrap (s1+1))))
else
 some (.inr (.inr ())))) 0) fun x4 =>
(match x4 with
| .inl d7 =>
 some false
| .inr d8 =>
 some true))
theorem Qi7 {a0:(List Qwi)} {a1:(List Qwi)} {r:Bool} (h:QbH a0 a1=some r):PureC Tryz.prog 74 [.d (slD Qwi.enc a0),.d (slD Qwi.enc a1)] (dB r) []:=by
  refine Qq tOk (fn:=Tryz.f74) (c:=Qj Tryz.f74) rfl rfl ?_;unfold QbH at h;(conv=>whnf);refine Qc tOk ?_;(conv=>whnf);refine Qz h (fun _ h=>?_) (fun _ h=>?_)
  · (conv=>whnf);obtain rfl:=sj_ h;exact lfP []
  · (conv=>whnf);refine Qc tOk ?_;(conv=>whnf);obtain ⟨x4,hx4,h⟩:=Qa h;refine Zj tOk hx4 (fun s1=>⟨0,26,[(0,.d (slD Qwi.enc a0)),(1,.d (slD Qwi.enc a1)),(5,dI s1)],[],[],[]⟩) ?_ ?_
    · exact leX []
    · clear hx4;intro s1 y2 g3 hy2;(conv=>whnf);refine Qc tOk ?_;(conv=>whnf);refine Qz g3 (fun _ g3=>?_) (fun _ g3=>?_)
      · (conv=>whnf);refine Qc tOk ?_;(conv=>whnf);obtain ⟨g5,g3⟩:=Qf g3;obtain ⟨g6,g3⟩:=Qf g3;refine QS tOk [] 9 [] [0,0,3,7,0,0,48,112,255] [] ?_;(conv=>whnf);refine And.intro g5 ?_;clear g5;(conv=>whnf);refine And.intro g6 ?_;clear g6;(conv=>whnf);refine And.intro (by kernel_rfl) ?_;(conv=>whnf);refine Qz g3 (fun _ g3=>?_) (fun _ g3=>?_)
        · (conv=>whnf);obtain rfl:=sj_ g3;obtain rfl:=hy2 _ rfl;obtain rfl:=sj_ h;exact lfP []
        · (conv=>whnf);obtain rfl:=sj_ g3;exact ⟨_,rfl,leX []⟩
      · (conv=>whnf);obtain rfl:=sj_ g3;obtain rfl:=hy2 _ rfl;obtain rfl:=sj_ h;exact lfP []
noncomputable def Qcm (a0:Qwj) (a1:Qwj):Option (Bool) :=
 bd (gcall (((a0.Name == a1.Name) && (a0.Peer == a1.Peer))=true) (Qcy a0.Keys a1.Keys)) fun x1 =>
 bd (gcall (((((a0.Name == a1.Name) && (a0.Peer == a1.Peer)) && x1) && (a0.Boot == a1.Boot))=true) (Qbj a0.Want a1.Want)) fun x2 =>
 bd (gcall (((((((((((((a0.Name == a1.Name) && (a0.Peer == a1.Peer)) && x1) && (a0.Boot == a1.Boot)) && x2) && (a0.Turn == a1.Turn)) && (a0.PeerBoot == a1.PeerBoot)) && (a0.PeerTurn == a1.PeerTurn)) && (a0.Up == a1.Up)) && (a0.Left == a1.Left)) && (a0.Num == a1.Num)) && ((a0.Under.Kind == a1.Under.Kind) && (((a0.Under.Entry.Addr == a1.Under.Entry.Addr) && ((a0.Under.Entry.Len == a1.Under.Entry.Len) && ((a0.Under.Entry.Cost == a1.Under.Entry.Cost) && ((a0.Under.Entry.Label == a1.Under.Entry.Label) && true)))) && true)))=true) (Qbj a0.Told a1.Told)) fun x3 =>
 bd (gcall (((((((((((((((((a0.Name == a1.Name) && (a0.Peer == a1.Peer)) && x1) && (a0.Boot == a1.Boot)) && x2) && (a0.Turn == a1.Turn)) && (a0.PeerBoot == a1.PeerBoot)) && (a0.PeerTurn == a1.PeerTurn)) && (a0.Up == a1.Up)) && (a0.Left == a1.Left)) && (a0.Num == a1.Num)) && ((a0.Under.Kind == a1.Under.Kind) && (((a0.Under.Entry.Addr == a1.Under.Entry.Addr) && ((a0.Under.Entry.Len == a1.Under.Entry.Len) && ((a0.Under.Entry.Cost == a1.Under.Entry.Cost) && ((a0.Under.Entry.Label == a1.Under.Entry.Label) && true)))) && true))) && x3) && (a0.All == a1.All)) && (a0.Got == a1.Got)) && (a0.Full == a1.Full))=true) (QbH a0.Heard a1.Heard)) fun x4 =>
 some ((((((((((((((((((a0.Name == a1.Name) && (a0.Peer == a1.Peer)) && x1) && (a0.Boot == a1.Boot)) && x2) && (a0.Turn == a1.Turn)) && (a0.PeerBoot == a1.PeerBoot)) && (a0.PeerTurn == a1.PeerTurn)) && (a0.Up == a1.Up)) && (a0.Left == a1.Left)) && (a0.Num == a1.Num)) && ((a0.Under.Kind == a1.Under.Kind) && (((a0.Under.Entry.Addr == a1.Under.Entry.Addr) && ((a0.Under.Entry.Len == a1.Under.Entry.Len) && ((a0.Under.Entry.Cost == a1.Under.Entry.Cost) && ((a0.Under.Entry.Label == a1.Under.Entry.Label) && true)))) && true))) && x3) && (a0.All == a1.All)) && (a0.Got == a1.Got)) && (a0.Full == a1.Full)) && x4) && (a0.Keep == a1.Keep))
theorem Qmc {a0:Qwj} {a1:Qwj} {r:Bool} (h:Qcm a0 a1=some r):PureC Tryz.prog 37 [.agg (heC a0 (.d (slD Qwi.enc a0.Heard))),.agg (heC a1 (.d (slD Qwi.enc a1.Heard)))] (dB r) []:=by
  refine Qq tOk (fn:=Tryz.f37) (c:=Qj Tryz.f37) rfl rfl ?_;unfold Qcm at h;(conv=>whnf);obtain ⟨x1,hx1,h⟩:=Qa h;refine cG (fun c0=>Qlg (Qd hx1 c0)) ?_;(conv=>whnf);obtain ⟨x2,hx2,h⟩:=Qa h;refine cG (fun c0=>Qgi (Qd hx2 c0)) ?_;(conv=>whnf);obtain ⟨x3,hx3,h⟩:=Qa h;refine cG (fun c0=>Qgi (Qd hx3 c0)) ?_;(conv=>whnf);obtain ⟨x4,hx4,h⟩:=Qa h;refine cG (fun c0=>Qi7 (Qd hx4 c0)) ?_;(conv=>whnf);obtain rfl:=sj_ h;exact lfP []
noncomputable def Qbk (a0:Qwm) (a1:Qwm):Option (Bool) :=
(if ((((a0.Sides.length:Nat):Int) != ((a1.Sides.length:Nat):Int)) || (((a0.Radio.length:Nat):Int) != ((a1.Radio.length:Nat):Int)))=true then
 some false
else
 bd (lp (σ:=Int) (β:=(Unit ⊕ Unit)) (fun s1 =>
(if (decide (s1<((a0.Sides.length:Nat):Int)))=true then
 gd ((0:Int)≤s1∧s1<((a0.Sides.length:Nat):Int)) <|
 gd ((0:Int)≤s1∧s1<((a1.Sides.length:Nat):Int)) <|
 gd ((!(((a0.Sides.getD s1.toNat default).Up) == ((a1.Sides.getD s1.toNat default).Up)))=false→((0:Int)≤s1∧s1<((a0.Sides.length:Nat):Int))) <|
 gd ((!(((a0.Sides.getD s1.toNat default).Up) == ((a1.Sides.getD s1.toNat default).Up)))=false→((0:Int)≤s1∧s1<((a1.Sides.length:Nat):Int))) <|
 bd (gcall ((!(((a0.Sides.getD s1.toNat default).Up) == ((a1.Sides.getD s1.toNat default).Up)))=false) (Qcm ({ ((a0.Sides.getD s1.toNat default).End) with Under:=(⟨(((a0.Sides.getD s1.toNat default).End).Under).Kind,((((a0.Sides.getD s1.toNat default).End).Under).Entry)⟩:Qwh) }) ({ ((a1.Sides.getD s1.toNat default).End) with Under:=(⟨(((a1.Sides.getD s1.toNat default).End).Under).Kind,((((a1.Sides.getD s1.toNat default).End).Under).Entry)⟩:Qwh) }))) fun x9 =>
(if ((!(((a0.Sides.getD s1.toNat default).Up) == ((a1.Sides.getD s1.toNat default).Up))) || (!x9))=true then
 some (.inr (.inl ()))
else
 some (.inl (IntKind.i64.wrap (s1+1))))
else
 some (.inr (.inr ())))) 0) fun x4 =>
(match x4 with
| .inl d10 =>
 some false
| .inr d11 =>
 bd (lp (σ:=Int) (β:=(Unit ⊕ Unit)) (fun s12 =>
(if (decide (s12<((a0.Radio.length:Nat):Int)))=true then
 gd ((0:Int)≤s12∧s12<((a0.Radio.length:Nat):Int)) <|
 gd ((0:Int)≤s12∧s12<((a1.Radio.length:Nat):Int)) <|
(if (!((((a0.Radio.getD s12.toNat default).From) == ((a1.Radio.getD s12.toNat default).From)) && ((((a0.Radio.getD s12.toNat default).To) == ((a1.Radio.getD s12.toNat default).To)) && ((((a0.Radio.getD s12.toNat default).Key) == ((a1.Radio.getD s12.toNat default).Key)) && ((((a0.Radio.getD s12.toNat default).Boot) == ((a1.Radio.getD s12.toNat default).Boot)) && ((((a0.Radio.getD s12.toNat default).Yours) == ((a1.Radio.getD s12.toNat default).Yours)) && ((((a0.Radio.getD s12.toNat default).Turn) == ((a1.Radio.getD s12.toNat default).Turn)) && ((((a0.Radio.getD s12.toNat default).Num) == ((a1.Radio.getD s12.toNat default).Num)) && ((((a0.Radio.getD s12.toNat default).Heard) == ((a1.Radio.getD s12.toNat default).Heard)) && ((((((a0.Radio.getD s12.toNat default).Change).Kind) == (((a1.Radio.getD s12.toNat default).Change).Kind)) && (((((((a0.Radio.getD s12.toNat default).Change).Entry).Addr) == ((((a1.Radio.getD s12.toNat default).Change).Entry).Addr)) && ((((((a0.Radio.getD s12.toNat default).Change).Entry).Len) == ((((a1.Radio.getD s12.toNat default).Change).Entry).Len)) && ((((((a0.Radio.getD s12.toNat default).Change).Entry).Cost) == ((((a1.Radio.getD s12.toNat default).Change).Entry).Cost)) && ((((((a0.Radio.getD s12.toNat default).Change).Entry).Label) == ((((a1.Radio.getD s12.toNat default).Change).Entry).Label)) && true)))) && true)) && ((((a0.Radio.getD s12.toNat default).Sum) == ((a1.Radio.getD s12.toNat default).Sum)) && true)))))))))))=true then
 some (.inr (.inl ()))
else
 some (.inl (IntKind.i64.wrap (s12+1))))
else
 some (.inr (.inr ())))) 0) fun x15 =>
(match x15 with
| .inl d18 =>
 some false
| .inr d19 =>
 some true)))
theorem Qkf {a0:Qwm} {a1:Qwm} {r:Bool} (h:Qbk a0 a1=some r):PureC Tryz.prog 15 [.agg [.d (slD Qwk.enc a0.Sides),.d (slD Qwl.enc a0.Radio)],.agg [.d (slD Qwk.enc a1.Sides),.d (slD Qwl.enc a1.Radio)]] (dB r) []:=by
  refine Qq tOk (fn:=Tryz.f15) (c:=Qj Tryz.f15) rfl rfl ?_;unfold Qbk at h;(conv=>whnf);refine Qc tOk ?_;(conv=>whnf);refine Qz h (fun _ h=>?_) (fun _ h=>?_)
  · (conv=>whnf);obtain rfl:=sj_ h;exact lfP []
  · (conv=>whnf);refine Qc tOk ?_;(conv=>whnf);obtain ⟨x4,hx4,h⟩:=Qa h;refine Zj tOk hx4 (fun s1=>⟨0,77,[(2,.ref 2 0 0),(3,.ref 3 0 0),(5,dI s1)],[],[(3,.box 26 [.d (slD Qwk.enc a1.Sides),.d (slD Qwl.enc a1.Radio)]),(2,.box 26 [.d (slD Qwk.enc a0.Sides),.d (slD Qwl.enc a0.Radio)])],[]⟩) ?_ ?_
    · exact leX []
    · clear hx4;intro s1 y2 g3 hy2;(conv=>whnf);refine Qc tOk ?_;(conv=>whnf);refine Qz g3 (fun _ g3=>?_) (fun _ g3=>?_)
      · (conv=>whnf);refine Qc tOk ?_;(conv=>whnf);obtain ⟨g5,g3⟩:=Qf g3;obtain ⟨g6,g3⟩:=Qf g3;obtain ⟨g7,g3⟩:=Qf g3;obtain ⟨g8,g3⟩:=Qf g3;obtain ⟨x9,hx9,g3⟩:=Qa g3;refine QS tOk [.u 26 0 (dB x9) []] 29 [] [0,1,0,7,15,31,0,64,0,448,960,1984,4095,8191,16383,32767,16383,131071,262143,524287,16383,1064959,16383,7356415,15745023,32522239,67108863,134217727,268435455] [] ?_;(conv=>whnf);refine And.intro g5 ?_;clear g5;(conv=>whnf);refine And.intro g6 ?_;clear g6;(conv=>whnf);refine And.intro g7 ?_;clear g7;(conv=>whnf);refine And.intro g8 ?_;clear g8;(conv=>whnf);refine And.intro (Q1 rfl rfl rfl rfl (by intro c0; exact Qmc (Qd hx9 c0))) ?_;(conv=>whnf);refine And.intro (by kernel_rfl) ?_;(conv=>whnf);refine Qz g3 (fun _ g3=>?_) (fun _ g3=>?_)
        · (conv=>whnf);obtain rfl:=sj_ g3;obtain rfl:=hy2 _ rfl;obtain rfl:=sj_ h;exact lfP []
        · (conv=>whnf);obtain rfl:=sj_ g3;exact ⟨_,rfl,leX []⟩
      · (conv=>whnf);obtain rfl:=sj_ g3;obtain rfl:=hy2 _ rfl;refine Qc tOk ?_;(conv=>whnf);obtain ⟨x15,hx15,h⟩:=Qa h;refine Zj tOk hx15 (fun s12=>⟨0,77,[(2,.ref 2 0 0),(3,.ref 3 0 0),(6,dI s12)],[],[(3,.box 26 [.d (slD Qwk.enc a1.Sides),.d (slD Qwl.enc a1.Radio)]),(2,.box 26 [.d (slD Qwk.enc a0.Sides),.d (slD Qwl.enc a0.Radio)])],[]⟩) ?_ ?_
        · exact leX []
        · clear hx15;intro s12 y13 g14 hy13;(conv=>whnf);refine Qc tOk ?_;(conv=>whnf);refine Qz g14 (fun _ g14=>?_) (fun _ g14=>?_)
          · (conv=>whnf);refine Qc tOk ?_;(conv=>whnf);obtain ⟨g16,g14⟩:=Qf g14;obtain ⟨g17,g14⟩:=Qf g14;refine QS tOk [] 11 [] [0,1,0,7,15,0,32,0,224,480,1023] [] ?_;(conv=>whnf);refine And.intro g16 ?_;clear g16;(conv=>whnf);refine And.intro g17 ?_;clear g17;(conv=>whnf);refine And.intro (by kernel_rfl) ?_;(conv=>whnf);refine Qz g14 (fun _ g14=>?_) (fun _ g14=>?_)
            · (conv=>whnf);obtain rfl:=sj_ g14;obtain rfl:=hy13 _ rfl;obtain rfl:=sj_ h;exact lfP []
            · (conv=>whnf);obtain rfl:=sj_ g14;exact ⟨_,rfl,leX []⟩
          · (conv=>whnf);obtain rfl:=sj_ g14;obtain rfl:=hy13 _ rfl;obtain rfl:=sj_ h;exact lfP []
noncomputable def QbS (a0:(List Int)):Option (Bool) :=
(if (decide (((a0.length:Nat):Int) > 1048576))=true then
 some true
else
 bd (Jq a0) fun x1 =>
 bd (gcall ((((x1.1.Sides.length:Nat):Int) != 2)=false) (Qar x1.1)) fun x2 =>
(if ((((x1.1.Sides.length:Nat):Int) != 2) || (!x2))=true then
 some false
else
 bd (lp (σ:=List Qwk × List Qwl × Int) (β:=(Unit ⊕ Unit)) (fun s3 =>
(if (decide (s3.2.2<((x1.2.length:Nat):Int)))=true then
 gd ((0:Int)≤s3.2.2∧s3.2.2<((x1.2.length:Nat):Int)) <|
 bd (Qa8 (⟨s3.1,s3.2.1⟩:Qwm) ({ (x1.2.getD s3.2.2.toNat default) with Word:={ ((x1.2.getD s3.2.2.toNat default).Word) with Change:=(⟨(((x1.2.getD s3.2.2.toNat default).Word).Change).Kind,((((x1.2.getD s3.2.2.toNat default).Word).Change).Entry)⟩:Qwh) } })) fun x8 =>
 gd ((0:Int)≤s3.2.2∧s3.2.2<((x1.2.length:Nat):Int)) <|
 bd (Qaq (⟨s3.1,s3.2.1⟩:Qwm) ({ (x1.2.getD s3.2.2.toNat default) with Word:={ ((x1.2.getD s3.2.2.toNat default).Word) with Change:=(⟨(((x1.2.getD s3.2.2.toNat default).Word).Change).Kind,((((x1.2.getD s3.2.2.toNat default).Word).Change).Entry)⟩:Qwh) } })) fun x10 =>
 bd (Qbk x8 x10) fun x11 =>
 bd (gcall ((!x11)=false) (Q9 x8)) fun x12 =>
 bd (gcall (((!x11) || (!x12))=false) (Qar x8)) fun x13 =>
(if (((!x11) || (!x12)) || (!x13))=true then
 some (.inr (.inl ()))
else
 bd (lp (σ:=Int) (β:=(Unit ⊕ Unit)) (fun s14 =>
(if (decide (s14<2))=true then
 gd ((0:Int)≤s14∧s14<((x8.Sides.length:Nat):Int)) <|
 gd ((0:Int)≤s14∧s14<((s3.1.length:Nat):Int)) <|
 gd ((decide ((((x8.Sides.getD s14.toNat default).End).Boot)<(((s3.1.getD s14.toNat default).End).Boot)))=false→((0:Int)≤s3.2.2∧s3.2.2<((x1.2.length:Nat):Int))) <|
 gd ((((x1.2.getD s3.2.2.toNat default).Kind) == 7)=true→((decide ((((x8.Sides.getD s14.toNat default).End).Boot)<(((s3.1.getD s14.toNat default).End).Boot)))=false→((0:Int)≤s3.2.2∧s3.2.2<((x1.2.length:Nat):Int)))) <|
 gd (((((x1.2.getD s3.2.2.toNat default).Kind) == 7) && (((x1.2.getD s3.2.2.toNat default).At) == s14))=true→((decide ((((x8.Sides.getD s14.toNat default).End).Boot)<(((s3.1.getD s14.toNat default).End).Boot)))=false→((0:Int)≤s14∧s14<((s3.1.length:Nat):Int)))) <|
 gd ((((((x1.2.getD s3.2.2.toNat default).Kind) == 7) && (((x1.2.getD s3.2.2.toNat default).At) == s14)) && (!((s3.1.getD s14.toNat default).Up)))=true→((decide ((((x8.Sides.getD s14.toNat default).End).Boot)<(((s3.1.getD s14.toNat default).End).Boot)))=false→((0:Int)≤s14∧s14<((x8.Sides.length:Nat):Int)))) <|
 gd ((((((x1.2.getD s3.2.2.toNat default).Kind) == 7) && (((x1.2.getD s3.2.2.toNat default).At) == s14)) && (!((s3.1.getD s14.toNat default).Up)))=true→((decide ((((x8.Sides.getD s14.toNat default).End).Boot)<(((s3.1.getD s14.toNat default).End).Boot)))=false→((0:Int)≤s14∧s14<((s3.1.length:Nat):Int)))) <|
(if ((decide ((((x8.Sides.getD s14.toNat default).End).Boot)<(((s3.1.getD s14.toNat default).End).Boot))) || ((((((x1.2.getD s3.2.2.toNat default).Kind) == 7) && (((x1.2.getD s3.2.2.toNat default).At) == s14)) && (!((s3.1.getD s14.toNat default).Up))) && (decide ((((x8.Sides.getD s14.toNat default).End).Boot)≤(((s3.1.getD s14.toNat default).End).Boot)))))=true then
 some (.inr (.inl ()))
else
 some (.inl (IntKind.i64.wrap (s14+1))))
else
 some (.inr (.inr ())))) 0) fun x17 =>
(match x17 with
| .inl d25 =>
 some (.inr (.inl ()))
| .inr d26 =>
 some (.inl (x8.Sides,x8.Radio,IntKind.i64.wrap (s3.2.2+1)))))
else
 some (.inr (.inr ())))) (x1.1.Sides,x1.1.Radio,0)) fun x6 =>
(match x6 with
| .inl d27 =>
 some false
| .inr d28 =>
 some true)))
theorem QhI {a0:(List Int)} {r:Bool} (h:QbS a0=some r):PureC Tryz.prog 4 [.d (slD QR a0)] (dB r) []:=by
  refine Qq tOk (fn:=Tryz.f4) (c:=Qj Tryz.f4) rfl rfl ?_;unfold QbS at h;(conv=>whnf);refine Qc tOk ?_;(conv=>whnf);refine Qz h (fun _ h=>?_) (fun _ h=>?_)
  · (conv=>whnf);obtain rfl:=sj_ h;exact lfP []
  · (conv=>whnf);obtain ⟨x1,hx1,h⟩:=Qa h;refine cE [] 1000 (Qfh hx1) ?_;(conv=>whnf);refine Qc tOk ?_;(conv=>whnf);obtain ⟨x2,hx2,h⟩:=Qa h;refine cG (fun c0=>Qfc (Qd hx2 c0)) ?_;(conv=>whnf);refine Qz h (fun _ h=>?_) (fun _ h=>?_)
    · (conv=>whnf);obtain rfl:=sj_ h;exact lfP []
    · (conv=>whnf);refine Qc tOk ?_;(conv=>whnf);obtain ⟨x6,hx6,h⟩:=Qa h;refine Zj tOk hx6 (fun s3=>⟨0,119,[(3,.ref 3 0 0),(4,.osl 6001 0 x1.2.length),(5,dI s3.2.2)],[],[(3,.box 26 [.d (slD Qwk.enc s3.1),.d (slD Qwl.enc s3.2.1)]),(6001,.arr 44 18 x1.2.length (rows Qwn.enc x1.2))],[]⟩) ?_ ?_
      · exact leX []
      · clear hx6;intro s3 y4 g5 hy4;(conv=>whnf);refine Qc tOk ?_;(conv=>whnf);refine Qz g5 (fun _ g5=>?_) (fun _ g5=>?_)
        · (conv=>whnf);refine Qc tOk ?_;(conv=>whnf);obtain ⟨g7,g5⟩:=Qf g5;obtain ⟨x8,hx8,g5⟩:=Qa g5;refine QaG tOk [.e 5 [] (.agg [.d (slD Qwk.enc x8.Sides),.d (slD Qwl.enc x8.Radio)]) [] []] 7 [] [0,0,0,6,14,31,0] [127] [] ?_;(conv=>whnf);refine And.intro g7 ?_;clear g7;(conv=>whnf);refine And.intro (eD [] 0 (Qiw hx8)) ?_;(conv=>whnf);refine And.intro (by kernel_rfl) ?_;(conv=>whnf);refine Qc tOk ?_;(conv=>whnf);obtain ⟨g9,g5⟩:=Qf g5;obtain ⟨x10,hx10,g5⟩:=Qa g5;obtain ⟨x11,hx11,g5⟩:=Qa g5;obtain ⟨x12,hx12,g5⟩:=Qa g5;obtain ⟨x13,hx13,g5⟩:=Qa g5;refine QaG tOk [.e 6 [] (.agg [.osl 7001 0 x10.Sides.length,.osl 7002 0 x10.Radio.length]) [(7001,.arr 38 23 x10.Sides.length (rows Qwk.enc x10.Sides)),(7002,.arr 42 14 x10.Radio.length (rows Qwl.enc x10.Radio))] [],.u 7 0 (dB x11) [],.u 11 0 (dB x12) [],.u 16 0 (dB x13) []] 19 [] [0,0,0,0,12,28,62,127,255,511,1023,2047,4095,8191,16383,32767,65535,131071,262143] [] [] ?_;(conv=>whnf);refine And.intro g9 ?_;clear g9;(conv=>whnf);refine And.intro (eD [] 2000 (Qfa hx10)) ?_;(conv=>whnf);refine And.intro (QM (Qkf hx11) (by kernel_rfl)) ?_;(conv=>whnf);refine And.intro (Q1 rfl rfl rfl rfl (by intro c0; exact Jv (Qd hx12 c0))) ?_;(conv=>whnf);refine And.intro (Q1 rfl rfl rfl rfl (by intro c0; exact Qfc (Qd hx13 c0))) ?_;(conv=>whnf);refine And.intro (by kernel_rfl) ?_;(conv=>whnf);refine Qz g5 (fun _ g5=>?_) (fun _ g5=>?_)
          · (conv=>whnf);obtain rfl:=sj_ g5;obtain rfl:=hy4 _ rfl;obtain rfl:=sj_ h;exact lfP []
          · (conv=>whnf);refine Qc tOk ?_;(conv=>whnf);obtain ⟨x17,hx17,g5⟩:=Qa g5;refine Zj tOk hx17 (fun s14=>⟨0,119,[(3,.ref 3 0 0),(4,.osl 6001 0 x1.2.length),(5,dI s3.2.2),(6,.ref 6 0 0),(7,dI s14)],[],[(6,.box 26 [.d (slD Qwk.enc x8.Sides),.d (slD Qwl.enc x8.Radio)]),(3,.box 26 [.d (slD Qwk.enc s3.1),.d (slD Qwl.enc s3.2.1)]),(6001,.arr 44 18 x1.2.length (rows Qwn.enc x1.2))],[]⟩) ?_ ?_
            · exact leX []
            · clear hx17;intro s14 y15 g16 hy15;(conv=>whnf);refine Qc tOk ?_;(conv=>whnf);refine Qz g16 (fun _ g16=>?_) (fun _ g16=>?_)
              · (conv=>whnf);refine Qc tOk ?_;(conv=>whnf);obtain ⟨g18,g16⟩:=Qf g16;obtain ⟨g19,g16⟩:=Qf g16;obtain ⟨g20,g16⟩:=Qf g16;obtain ⟨g21,g16⟩:=Qf g16;obtain ⟨g22,g16⟩:=Qf g16;obtain ⟨g23,g16⟩:=Qf g16;obtain ⟨g24,g16⟩:=Qf g16;refine QS tOk [] 58 [] [0,1,0,7,15,31,63,0,128,0,896,1920,3968,8064,16383,32767,65535,65535,262143,524287,1048575,2097151,4194303,8388607,8388607,33554431,67108863,134217727,8388607,536870911,1073741823,2147483647,4294967295,8589934591,4294967295,34359738367,68719476735,137438953471,274877906943,549755813887,1099511627775,2199023255551,4398046511103,2199023255551,17592186044415,35184372088831,70368744177663,140737488355327,2199023255551,283673999966207,2199023255551,1972523860230143,4224323673915391,8727923301285887,17735122556026879,36028797018963967,72057594037927935,144115188075855871] [] ?_;(conv=>whnf);refine And.intro g18 ?_;clear g18;(conv=>whnf);refine And.intro g19 ?_;clear g19;(conv=>whnf);refine And.intro g20 ?_;clear g20;(conv=>whnf);refine And.intro g21 ?_;clear g21;(conv=>whnf);refine And.intro g22 ?_;clear g22;(conv=>whnf);refine And.intro g23 ?_;clear g23;(conv=>whnf);refine And.intro g24 ?_;clear g24;(conv=>whnf);refine And.intro (by kernel_rfl) ?_;(conv=>whnf);refine Qz g16 (fun _ g16=>?_) (fun _ g16=>?_)
                · (conv=>whnf);obtain rfl:=sj_ g16;obtain rfl:=hy15 _ rfl;obtain rfl:=sj_ g5;obtain rfl:=hy4 _ rfl;obtain rfl:=sj_ h;exact lfP []
                · (conv=>whnf);obtain rfl:=sj_ g16;exact ⟨_,rfl,leX []⟩
              · (conv=>whnf);obtain rfl:=sj_ g16;obtain rfl:=hy15 _ rfl;obtain rfl:=sj_ g5;exact ⟨_,rfl,leX []⟩
        · (conv=>whnf);obtain rfl:=sj_ g5;obtain rfl:=hy4 _ rfl;obtain rfl:=sj_ h;exact lfP []
end Go.Proofs.YtjgjdobkahdgfaaGreat
