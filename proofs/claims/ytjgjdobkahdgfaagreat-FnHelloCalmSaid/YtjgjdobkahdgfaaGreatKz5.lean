/-
  What some of the program's functions compute: their models, and that the functions compute these; no condition.
-/
import Derived.Test.YtjgjdobkahdgfaaGreatTyz
import Derived.Test.YtjgjdobkahdgfaaGreatTbz
import Derived.Test.YtjgjdobkahdgfaaGreatAbz7
import Derived.Test.YtjgjdobkahdgfaaGreatKz4
set_option linter.all false
namespace Go.Proofs.YtjgjdobkahdgfaaGreat
open Go Go.Ab
set_option maxRecDepth 100000
set_option maxHeartbeats 40000000
noncomputable def Qbg (s0 s1:Qxq) (rd:List Qxr) (kind at_:Int):Option (Qxq × Qxq × List Qxr) :=
 bd (Qu at_ 0 (IntKind.i64.wrap (((rd.length:Nat):Int) - 1))) fun x1 =>
(if (!x1)=true then
 some (s0,s1,rd)
else
 gd ((0:Int)≤at_∧at_<((rd.length:Nat):Int)) <|
(if (kind == 3)=true then
 bd (Qev rd (rd.getD at_.toNat default)) fun y=>some (s0,s1,y)
else
 bd (Zb rd at_ (IntKind.i64.wrap (at_+1))) fun y =>
(if (kind == 2)=true then
 bd (QeQ s0 s1 (rd.getD at_.toNat default)) fun z=>some (z.1,z.2,y)
else
 some (s0,s1,y))))
theorem Qfb {s0 s1:Qxq} {rd:List Qxr} {kind at_:Int} {r:Qxq × Qxq × List Qxr} (h:Qbg s0 s1 rd kind at_=some r):EffC Tryz.prog 26 [.ref 9000 0 0,.d (.int .i64 kind),.d (.int .i64 at_)] (hwB 9000 9001 9002 9003 9004 s0 s1 rd) (.tup []) (hwB 9000 9001 5002 5003 5004 r.1 r.2.1 r.2.2):=by
  refine QS tOk (fn:=Tryz.f26) (c:=Qi Tryz.f26) rfl rfl ?_;unfold Qbg at h;(conv=>whnf);refine Qc tOk ?_;(conv=>whnf);obtain ⟨x1,hx1,h⟩:=Qa h;refine cC 0 (Qz hx1) ?_;clear hx1;(conv=>whnf);refine Qy h (fun _ h=>?_) (fun _ h=>?_)
  · (conv=>whnf);obtain rfl:=sj_ h;exact lfE [.s [(9002,5002),(5002,9002),(9003,5003),(5003,9003),(9004,5004),(5004,9004)]]
  · (conv=>whnf);refine gdI h (fun h=>?_);(conv=>whnf);refine Qc tOk ?_;(conv=>whnf);refine Qy h (fun _ h=>?_) (fun _ h=>?_)
    · (conv=>whnf);obtain ⟨y,hy,h⟩:=Qa h;obtain rfl:=sj_ h;refine cE [(5002,6002)] 0 (Qje (s0:=s0) (s1:=s1) hy) ?_;(conv=>whnf);exact lfE [.s [(6002,5002),(5002,6002),(9003,5003),(5003,9003),(9004,5004),(5004,9004)]]
    · (conv=>whnf);obtain ⟨y,hy,h⟩:=Qa h;refine cE [(9000,9002),(5001,6002)] 0 (QcG hy) ?_;(conv=>whnf);refine Qy h (fun _ h=>?_) (fun _ h=>?_)
      · (conv=>whnf);obtain ⟨z,hz,h⟩:=Qa h;obtain rfl:=sj_ h;refine cE [(9002,6002),(5003,6003),(5004,6004)] 0 (Qqs (rd:=y) hz) ?_;(conv=>whnf);exact lfE [.s [(6002,5002),(5002,6002),(6003,5003),(5003,6003),(6004,5004),(5004,6004)]]
      · (conv=>whnf);obtain rfl:=sj_ h;exact lfE [.s [(6002,5002),(5002,6002),(9003,5003),(5003,9003),(9004,5004),(5004,9004)]]
noncomputable def Qcc (s0 s1:Qxq) (rd:List Qxr):Option (Qxq × Qxq × List Qxr) :=
 lp (σ:=Qxq × Qxq × List Qxr) (β:=Qxq × Qxq × List Qxr) (fun s =>
(if (decide (((s.2.2.length:Nat):Int) > 0))=true then
 bd (Qbg s.1 s.2.1 s.2.2 2 0) fun y=>some (.inl y)
else
 some (.inr s))) (s0,s1,rd)
theorem Qhz {s0 s1:Qxq} {rd:List Qxr} {r:Qxq × Qxq × List Qxr} (h:Qcc s0 s1 rd=some r):EffC Tryz.prog 31 [.ref 9000 0 0] (hwB 9000 9001 9002 9003 9004 s0 s1 rd) (.tup []) (hwB 9000 9001 5002 5003 5004 r.1 r.2.1 r.2.2):=by
  refine QS tOk (fn:=Tryz.f31) (c:=Qi Tryz.f31) rfl rfl ?_;unfold Qcc at h;(conv=>whnf);refine Zp tOk h (fun s=>⟨0,10,[(0,.ref 9000 0 0)],[],hwB 9000 9001 9002 9003 9004 s.1 s.2.1 s.2.2,[⟨[(0,.ref 9000 0 0),(1,.osl 9001 0 2)],[]⟩]⟩) ?_ ?_
  · exact leX []
  · clear h;intro s y g hy;(conv=>whnf);refine Qc tOk ?_;(conv=>whnf);refine Qy g (fun _ g=>?_) (fun _ g=>?_)
    · (conv=>whnf);obtain ⟨z,hz,g⟩:=Qa g;obtain rfl:=sj_ g;refine cE [(5002,6002),(5003,6003),(5004,6004)] 0 (Qfb hz) ?_;(conv=>whnf);exact ⟨_,rfl,leX [.s [(6002,9002),(9002,6002),(6003,9003),(9003,6003),(6004,9004),(9004,6004)]]⟩
    · (conv=>whnf);obtain rfl:=sj_ g;obtain rfl:=hy _ rfl;exact lfE [.s [(9002,5002),(5002,9002),(9003,5003),(5003,9003),(9004,5004),(5004,9004)]]
noncomputable def QeR (s0 s1:Qxq) (x:Qxr):Option Bool:=Qk [s0,s1] x
theorem Qk0 {s0 s1:Qxq} {rd:List Qxr} {x:Qxr} {r:Bool} (h:QeR s0 s1 x=some r):PureC Tryz.prog 28 [.rp [.sl 2 (Qm0 23 (Qxq.enc s0 ++ Qxq.enc s1)),slD Qxr.enc rd],.agg (hwC x)] (.d (.bool r)) []:=by
  have h2:ZL ⟨[s0,s1],rd⟩ x=some r:=by
    unfold ZL;rw [show Qk [s0,s1] x=some r from h];rfl
  exact PureC.le (vs:=[.rp [slD Qxq.enc [s0,s1],slD Qxr.enc rd],.agg (hwC x)]) (And.intro (VLe.rpL (And.intro (VLe.rows (by kernel_rfl) (Qum (by kernel_rfl) (by kernel_rfl))) (And.intro (VLe.refl _) trivial))) (And.intro (VLe.refl _) trivial)) (QcV h2)
@[reducible] def hwP:Nat × Blk:=(9005,.box 78 [.ref 9000 0 0])
noncomputable def QgZ (s0 s1:Qxq) (x:Qxr):Option Bool:=bd (QeR s0 s1 x) fun b=>some (!b)
theorem Qro {s0 s1:Qxq} {rd:List Qxr} {x:Qxr} {r:Bool} (h:QgZ s0 s1 x=some r):EffC Tryz.prog 64 [.agg (hwC x),.ref 9005 0 0] (hwP :: hwB 9000 9001 9002 9003 9004 s0 s1 rd) (.d (.bool r)) (hwP :: hwB 9000 9001 9002 9003 9004 s0 s1 rd):=by
  refine QS tOk (fn:=Tryz.f64) (c:=Qi Tryz.f64) rfl rfl ?_;unfold QgZ at h;(conv=>whnf);obtain ⟨b,hb,h⟩:=Qa h;obtain rfl:=sj_ h;refine cC 0 (Qk0 (rd:=rd) hb) ?_;(conv=>whnf);exact lfE []
noncomputable def QhA (s0 s1:Qxq) (rd:List Qxr):Option Int :=
 bd (lp (σ:=Int) (β:=Int ⊕ Unit) (fun s =>
(if (decide (s<((rd.length:Nat):Int)))=true then
 gd ((0:Int)≤s∧s<((rd.length:Nat):Int)) <|
 bd (QgZ s0 s1 (rd.getD s.toNat default)) fun x6 =>
(if x6=true then
 some (.inr (.inl s))
else
 some (.inl (IntKind.i64.wrap (s+1))))
else
 some (.inr (.inr ())))) 0) fun x4 =>
(match x4 with
| .inl d7=>some d7
| .inr _=>some (-1))
theorem Qtg {s0 s1:Qxq} {rd:List Qxr} {r:Int} (h:QhA s0 s1 rd=some r):EffC Tryz.prog 100 [.osl 9002 0 rd.length,.fn 64 [.ref 9005 0 0]] (hwP :: hwB 9000 9001 9002 9003 9004 s0 s1 rd) (.d (.int .i64 r)) (hwP :: hwB 9000 9001 9002 9003 9004 s0 s1 rd):=by
  refine QS tOk (fn:=Tryz.f100) (c:=Qi Tryz.f100) rfl rfl ?_;unfold QhA at h;(conv=>whnf);refine Qc tOk ?_;(conv=>whnf);obtain ⟨x4,hx4,h⟩:=Qa h;refine Zp tOk hx4 (fun s=>⟨0,Tryz.f100.ntmps,[(0,.osl 9002 0 rd.length),(1,.fn 64 [.ref 9005 0 0]),(7,.d (.int .i64 ((rd.length:Nat):Int))),(8,.d (.int .i64 s))],[],hwP :: hwB 9000 9001 9002 9003 9004 s0 s1 rd,[⟨QkP 0 (hwP :: hwB 9000 9001 9002 9003 9004 s0 s1 rd),[]⟩]⟩) ?_ ?_
  · exact leX []
  · clear hx4;intro s y g hy;(conv=>whnf);refine Qc tOk ?_;(conv=>whnf);refine Qy g (fun _ g=>?_) (fun _ g=>?_)
    · (conv=>whnf);refine Qc tOk ?_;(conv=>whnf);refine gdI g (fun g=>?_);(conv=>whnf);obtain ⟨x6,hx6,g⟩:=Qa g;refine cE [] 0 (Qro (rd:=rd) hx6) ?_;(conv=>whnf);refine Qy g (fun _ g=>?_) (fun _ g=>?_)
      · (conv=>whnf);obtain rfl:=sj_ g;obtain rfl:=hy _ rfl;obtain rfl:=sj_ h;exact lfE []
      · (conv=>whnf);obtain rfl:=sj_ g;exact ⟨_,rfl,leX []⟩
    · (conv=>whnf);obtain rfl:=sj_ g;obtain rfl:=hy _ rfl;obtain rfl:=sj_ h;exact lfE []
noncomputable def Qgn (s0 s1:Qxq) (rd:List Qxr):Option (List Qxr) :=
 bd (QhA s0 s1 rd) fun x1 =>
(if (x1 == (-1))=true then
 some rd
else
 bd (lp (σ:=List Qxr × Int × Int) (β:=Nat × Int × List Qxr) (fun s2 =>
(if (decide (s2.2.2<((s2.1.length:Nat):Int)))=true then
 gd ((0:Int)≤s2.2.2∧s2.2.2<((s2.1.length:Nat):Int)) <|
 bd (QgZ s0 s1 (s2.1.getD s2.2.2.toNat default)) fun x7 =>
(if (!x7)=true then
 gd ((0:Int)≤s2.2.1∧s2.2.1<((s2.1.length:Nat):Int)) <|
 bd (some (s2.1.set s2.2.1.toNat (s2.1.getD s2.2.2.toNat default))) fun x9 =>
 some (.inl (x9,IntKind.i64.wrap (s2.2.1+1),IntKind.i64.wrap (s2.2.2+1)))
else
 some (.inl (s2.1,s2.2.1,IntKind.i64.wrap (s2.2.2+1))))
else
 some (.inr (s2.1.length,s2.2.1,s2.1)))) (rd,x1,IntKind.i64.wrap (x1+1))) fun x5 =>
 gd ((0:Int)≤x5.2.1∧x5.2.1≤((x5.1:Nat):Int)∧((x5.1:Nat):Int)≤((x5.1:Nat):Int)) <|
 gd ((0:Int)≤(0:Int)∧(0:Int)≤x5.2.1∧x5.2.1≤((x5.1:Nat):Int)) <|
 some ((Qqq x5.2.2 x5.2.1.toNat (Qdb ((x5.1:Nat):Int) x5.2.1)).take x5.2.1.toNat))
theorem Qo8 {s0 s1:Qxq} {rd r:List Qxr} (h:Qgn s0 s1 rd=some r):EffC Tryz.prog 63 [.osl 9002 0 rd.length,.fn 64 [.ref 9005 0 0]] (hwP :: hwB 9000 9001 9002 9003 9004 s0 s1 rd) (.osl 5002 0 r.length) [hwP,(9000,.box 26 [.osl 9001 0 2,.any]),(9001,hwS 9003 9004 s0 s1),(5002,hwR r),(9003,heA s0.End),(9004,heA s1.End)]:=by
  refine QS tOk (fn:=Tryz.f63) (c:=Qi Tryz.f63) rfl rfl ?_;unfold Qgn at h;(conv=>whnf);obtain ⟨x1,hx1,h⟩:=Qa h;refine cE [] 0 (Qtg (rd:=rd) hx1) ?_;(conv=>whnf);refine Qc tOk ?_;(conv=>whnf);refine Qy h (fun _ h=>?_) (fun _ h=>?_)
  · (conv=>whnf);obtain rfl:=sj_ h;exact lfE [.s [(5002,9002),(9002,5002)]]
  · (conv=>whnf);refine Qc tOk ?_;(conv=>whnf);obtain ⟨x5,hx5,h⟩:=Qa h;refine Zp tOk hx5 (fun s2=>⟨0,Tryz.f63.ntmps,[(0,.osl 9002 0 s2.1.length),(1,.fn 64 [.ref 9005 0 0]),(5,.d (.int .i64 s2.2.1)),(6,.d (.int .i64 s2.2.2))],[],hwP :: hwB 9000 9001 9002 9003 9004 s0 s1 s2.1,[⟨QkP 0 (hwP :: hwB 9000 9001 9002 9003 9004 s0 s1 rd),[]⟩]⟩) ?_ ?_
    · exact leX []
    · clear hx5;intro s2 y3 g4 hy3;(conv=>whnf);refine Qc tOk ?_;(conv=>whnf);refine Qy g4 (fun _ g4=>?_) (fun _ g4=>?_)
      · (conv=>whnf);refine Qc tOk ?_;(conv=>whnf);refine gdI g4 (fun g4=>?_);(conv=>whnf);obtain ⟨x7,hx7,g4⟩:=Qa g4;refine cE [] 0 (Qro (rd:=s2.1) hx7) ?_;(conv=>whnf);refine Qy g4 (fun _ g4=>?_) (fun _ g4=>?_)
        · (conv=>whnf);refine gdI g4 (fun g4=>?_);(conv=>whnf);obtain ⟨x9,hx9,hlx9,g4⟩:=QjG g4;refine QuU (enc:=Qxr.enc) hx9 ?_;(conv=>whnf);obtain rfl:=sj_ g4;exact ⟨_,rfl,leX []⟩
        · (conv=>whnf);obtain rfl:=sj_ g4;exact ⟨_,rfl,leX []⟩
      · (conv=>whnf);obtain rfl:=sj_ g4;obtain rfl:=hy3 _ rfl;dsimp only at h;obtain ⟨g11,h⟩:=Qj h;refine And.intro g11 ?_;(conv=>whnf);refine ⟨rows Qxr.enc (Qqq (s2.1.length,s2.2.1,s2.1).2.2 (s2.1.length,s2.2.1,s2.1).2.1.toNat (Qdb (((s2.1.length,s2.2.1,s2.1).1:Nat):Int) (s2.1.length,s2.2.1,s2.1).2.1)),QlX QkZ rfl,?_⟩;(conv=>whnf);obtain ⟨g12,h⟩:=Qj h;refine And.intro g12 ?_;(conv=>whnf);obtain rfl:=sj_ h;exact lfE [.c 4,.s [(5002,9002),(9002,5002)]]
@[reducible] def QhB (e r:Qxp):Qxp:={ r with Name:=e.Name,Peer:=e.Peer,Keys:=e.Keys,Want:=e.Want,PeerBoot:=e.PeerBoot,PeerTurn:=e.PeerTurn }
noncomputable def QbX (s0 s1:Qxq) (rd:List Qxr) (kind:Int) (want:List Qxm) (keys:List Qxl):Option (Qxq × Qxq × List Qxr) :=
(if ((kind == 1) && s0.Up)=true then
 bd (JN s0.End) fun x =>
(if x.2.1=true then
 bd (Qev rd x.1) fun y=>some (⟨s0.Up,QhB s0.End x.2.2⟩,s1,y)
else
 some (⟨s0.Up,QhB s0.End x.2.2⟩,s1,rd))
else
(if ((kind == 5) && s0.Up)=true then
 bd (Z4 s0.End) fun x=>some (⟨s0.Up,QhB s0.End x⟩,s1,rd)
else
(if (kind == 6)=true then
 bd (Qcb s0.End) fun x=>some (⟨false,x⟩,s1,rd)
else
(if ((kind == 7) && (!s0.Up))=true then
 bd (Zc s0.End) fun x=>some (⟨true,QhB s0.End x⟩,s1,rd)
else
 bd (gcall ((kind == 8)=true) (Zw want)) fun t =>
(if ((kind == 8) && t)=true then
 bd (QE want) fun x=>some (⟨s0.Up,{ s0.End with Want:=x }⟩,s1,rd)
else
 bd (gcall ((kind == 9)=true) (Z6 keys)) fun t2 =>
(if ((kind == 9) && t2)=true then
 bd (Qgn s0 s1 rd) fun y =>
 bd (Zt keys) fun x=>some (⟨s0.Up,{ s0.End with Keys:=x }⟩,s1,y)
else
 some (s0,s1,rd)))))))
theorem QfZ {s0 s1:Qxq} {rd:List Qxr} {kind:Int} {want:List Qxm} {keys:List Qxl} {x0:Qxr} {r:Qxq × Qxq × List Qxr} (h:QbX s0 s1 rd kind want keys=some r):EffC Tryz.prog 30 [.ref 9000 0 0,.agg (.d (.int .i64 kind) :: .d (.int .i64 0) :: .d (slD Qxm.enc want) :: .d (slD Qxl.enc keys) :: hwC x0)] (hwB 9000 9001 9002 9003 9004 s0 s1 rd) (.tup []) (hwB 9000 9001 5002 5003 5004 r.1 r.2.1 r.2.2):=by
  refine QS tOk (fn:=Tryz.f30) (c:=Qi Tryz.f30) rfl rfl ?_;unfold QbX at h;have hx1:Qu 0 0 (IntKind.i64.wrap (((2:Nat):Int) - 1))=some true:=by kernel_rfl
  (conv=>whnf);refine Qc tOk ?_;(conv=>whnf);refine QU tOk [.u 8 0 (.d (.bool true)) []] 10 [] [0,1,0,4,12,28,60,124,255,511] [] ?_;(conv=>whnf);refine And.intro ⟨⟨Tryz.f49,rfl,by kernel_rfl,by kernel_rfl⟩,⟨_,rfl,Qz hx1⟩⟩ ?_;(conv=>whnf);refine And.intro (by kernel_rfl) ?_;(conv=>whnf);refine ⟨fun h0=>(by cases h0),fun _=>?_⟩;(conv=>whnf);refine QU tOk [] 7 [] [0,1,3,7,0,16,63] [127] ?_;(conv=>whnf);refine And.intro ⟨by decide,by decide⟩ ?_;(conv=>whnf);refine And.intro (by kernel_rfl) ?_;(conv=>whnf);refine Qy h (fun _ h=>?_) (fun _ h=>?_)
  · (conv=>whnf);obtain ⟨x,hx,h⟩:=Qa h;refine cE [(9002,9001),(9001,9003),(9003,9004),(5001,6003)] 0 (Qul 9002 2000038 [.d (.bool s0.Up)] (hsC s1 (.osl 9003 0 s1.End.Heard.length)) [(9003,heA s1.End)] (Qec hx)) ?_;(conv=>whnf);refine Qy h (fun _ h=>?_) (fun _ h=>?_)
    · (conv=>whnf);obtain ⟨y,hy,h⟩:=Qa h;obtain rfl:=sj_ h;refine cE [(9003,6003),(9004,9004),(5002,6002)] 0 (Qje (s0:=⟨s0.Up,QhB s0.End x.2.2⟩) (s1:=s1) hy) ?_;(conv=>whnf);exact lfE [.s [(6003,5003),(5003,6003),(9004,5004),(5004,9004),(6002,5002),(5002,6002)]]
    · (conv=>whnf);obtain rfl:=sj_ h;exact lfE [.s [(6003,5003),(5003,6003),(9004,5004),(5004,9004),(9002,5002),(5002,9002)]]
  · (conv=>whnf);refine Qy h (fun _ h=>?_) (fun _ h=>?_)
    · (conv=>whnf);obtain ⟨x,hx,h⟩:=Qa h;obtain rfl:=sj_ h;refine cE [(9002,9001),(9001,9003),(9003,9004),(5001,6003)] 0 (Qul 9002 2000038 [.d (.bool s0.Up)] (hsC s1 (.osl 9003 0 s1.End.Heard.length)) [(9003,heA s1.End)] (QdQ hx)) ?_;(conv=>whnf);exact lfE [.s [(6003,5003),(5003,6003),(9004,5004),(5004,9004),(9002,5002),(5002,9002)]]
    · (conv=>whnf);refine Qy h (fun _ h=>?_) (fun _ h=>?_)
      · (conv=>whnf);obtain ⟨x,hx,h⟩:=Qa h;obtain rfl:=sj_ h;refine cC 6000 (Qhy hx) ?_;(conv=>whnf);exact lfE [.f [11001,11002,11003],.s [(11004,5003),(5003,11004),(9004,5004),(5004,9004),(9002,5002),(5002,9002)]]
      · (conv=>whnf);refine Qy h (fun _ h=>?_) (fun _ h=>?_)
        · (conv=>whnf);obtain ⟨x,hx,h⟩:=Qa h;obtain rfl:=sj_ h;refine cE [(9002,9001),(9001,9003),(9003,9004),(5001,6003)] 0 (Qul 9002 2000038 [.d (.bool true)] (hsC s1 (.osl 9003 0 s1.End.Heard.length)) [(9003,heA s1.End)] (J6 hx)) ?_;(conv=>whnf);exact lfE [.s [(6003,5003),(5003,6003),(9004,5004),(5004,9004),(9002,5002),(5002,9002)]]
        · (conv=>whnf);obtain ⟨t,ht,h⟩:=Qa h;refine cG (fun c0=>Qax (Qd ht c0)) ?_;(conv=>whnf);refine Qy h (fun _ h=>?_) (fun _ h=>?_)
          · (conv=>whnf);obtain ⟨x,hx,h⟩:=Qa h;obtain rfl:=sj_ h;refine cC 6000 (Zx hx) ?_;(conv=>whnf);exact lfE [.f [11001],.s [(9003,5003),(5003,9003),(9004,5004),(5004,9004),(9002,5002),(5002,9002)]]
          · (conv=>whnf);obtain ⟨t2,ht2,h⟩:=Qa h;refine cG (fun c0=>QbJ (Qd ht2 c0)) ?_;(conv=>whnf);refine Qy h (fun _ h=>?_) (fun _ h=>?_)
            · (conv=>whnf);obtain ⟨y,hy,h⟩:=Qa h;obtain ⟨x,hx,h⟩:=Qa h;obtain rfl:=sj_ h;refine QaJ tOk [.l 0 [(2,.box 78 [.ref 9000 0 0])] (.ref 9000 0 0),.l 1 [(2,.box 78 [.ref 9000 0 0])] (.ref 9000 0 0),.l 4 [(9000,.box 26 [.osl 9001 0 2,.osl 9002 0 rd.length])] (.osl 9002 0 rd.length),.x 6 [(2,.box 78 [.ref 9000 0 0]),(9000,.box 26 [.osl 9001 0 2,.osl 9002 0 rd.length]),(9001,hwS 9003 9004 s0 s1),(9002,hwR rd),(9003,heA s0.End),(9004,heA s1.End)] (.osl 6002 0 y.length) [] [(6002,hwR y),(2,.box 78 [.ref 9000 0 0]),(9000,.box 26 [.osl 9001 0 2,.any]),(9001,hwS 9003 9004 s0 s1),(9003,heA s0.End),(9004,heA s1.End)] [2]] 7 [] [0,0,2,6,14,0,62] [127,255,511] [2,9000,9001,9002,9003,9004] ?_;(conv=>whnf);refine And.intro (by (conv=>whnf); exact ⟨by kernel_rfl,by kernel_rfl⟩) ?_;(conv=>whnf);refine And.intro (by (conv=>whnf); exact ⟨by kernel_rfl,by kernel_rfl⟩) ?_;(conv=>whnf);refine And.intro (by (conv=>whnf); exact ⟨by kernel_rfl,by kernel_rfl⟩) ?_;(conv=>whnf);refine And.intro (eH [(9005,2),(5002,6002)] 0 (Qo8 hy)) ?_;(conv=>whnf);refine And.intro (by kernel_rfl) ?_;(conv=>whnf);refine cC 6000 (QaO hx) ?_;(conv=>whnf);exact lfE [.f [11001],.s [(9003,5003),(5003,9003),(9004,5004),(5004,9004),(6002,5002),(5002,6002)]]
            · (conv=>whnf);obtain rfl:=sj_ h;exact lfE [.s [(9003,5003),(5003,9003),(9004,5004),(5004,9004),(9002,5002),(5002,9002)]]
noncomputable def QbY (s0 s1:Qxq) (rd:List Qxr) (kind:Int) (want:List Qxm) (keys:List Qxl):Option (Qxq × Qxq × List Qxr) :=
(if ((kind == 1) && s1.Up)=true then
 bd (JN s1.End) fun x =>
(if x.2.1=true then
 bd (Qev rd x.1) fun y=>some (s0,⟨s1.Up,QhB s1.End x.2.2⟩,y)
else
 some (s0,⟨s1.Up,QhB s1.End x.2.2⟩,rd))
else
(if ((kind == 5) && s1.Up)=true then
 bd (Z4 s1.End) fun x=>some (s0,⟨s1.Up,QhB s1.End x⟩,rd)
else
(if (kind == 6)=true then
 bd (Qcb s1.End) fun x=>some (s0,⟨false,x⟩,rd)
else
(if ((kind == 7) && (!s1.Up))=true then
 bd (Zc s1.End) fun x=>some (s0,⟨true,QhB s1.End x⟩,rd)
else
 bd (gcall ((kind == 8)=true) (Zw want)) fun t =>
(if ((kind == 8) && t)=true then
 bd (QE want) fun x=>some (s0,⟨s1.Up,{ s1.End with Want:=x }⟩,rd)
else
 bd (gcall ((kind == 9)=true) (Z6 keys)) fun t2 =>
(if ((kind == 9) && t2)=true then
 bd (Qgn s0 s1 rd) fun y =>
 bd (Zt keys) fun x=>some (s0,⟨s1.Up,{ s1.End with Keys:=x }⟩,y)
else
 some (s0,s1,rd)))))))
theorem Qf0 {s0 s1:Qxq} {rd:List Qxr} {kind:Int} {want:List Qxm} {keys:List Qxl} {x0:Qxr} {r:Qxq × Qxq × List Qxr} (h:QbY s0 s1 rd kind want keys=some r):EffC Tryz.prog 30 [.ref 9000 0 0,.agg (.d (.int .i64 kind) :: .d (.int .i64 1) :: .d (slD Qxm.enc want) :: .d (slD Qxl.enc keys) :: hwC x0)] (hwB 9000 9001 9002 9003 9004 s0 s1 rd) (.tup []) (hwB 9000 9001 5002 5003 5004 r.1 r.2.1 r.2.2):=by
  refine QS tOk (fn:=Tryz.f30) (c:=Qi Tryz.f30) rfl rfl ?_;unfold QbY at h;have hx1:Qu 1 0 (IntKind.i64.wrap (((2:Nat):Int) - 1))=some true:=by kernel_rfl
  (conv=>whnf);refine Qc tOk ?_;(conv=>whnf);refine QU tOk [.u 8 0 (.d (.bool true)) []] 10 [] [0,1,0,4,12,28,60,124,255,511] [] ?_;(conv=>whnf);refine And.intro ⟨⟨Tryz.f49,rfl,by kernel_rfl,by kernel_rfl⟩,⟨_,rfl,Qz hx1⟩⟩ ?_;(conv=>whnf);refine And.intro (by kernel_rfl) ?_;(conv=>whnf);refine ⟨fun h0=>(by cases h0),fun _=>?_⟩;(conv=>whnf);refine QU tOk [] 7 [] [0,1,3,7,0,16,63] [127] ?_;(conv=>whnf);refine And.intro ⟨by decide,by decide⟩ ?_;(conv=>whnf);refine And.intro (by kernel_rfl) ?_;(conv=>whnf);refine Qy h (fun _ h=>?_) (fun _ h=>?_)
  · (conv=>whnf);obtain ⟨x,hx,h⟩:=Qa h;refine cE [(9002,9001),(9001,9004),(9003,9003),(5001,6003)] 0 (Qul 9002 2000038 (hsC s0 (.osl 9003 0 s0.End.Heard.length) ++ [.d (.bool s1.Up)]) [] [(9003,heA s0.End)] (Qec hx)) ?_;(conv=>whnf);refine Qy h (fun _ h=>?_) (fun _ h=>?_)
    · (conv=>whnf);obtain ⟨y,hy,h⟩:=Qa h;obtain rfl:=sj_ h;refine cE [(9003,9003),(9004,6003),(5002,6002)] 0 (Qje (s0:=s0) (s1:=⟨s1.Up,QhB s1.End x.2.2⟩) hy) ?_;(conv=>whnf);exact lfE [.s [(6003,5004),(5004,6003),(9003,5003),(5003,9003),(6002,5002),(5002,6002)]]
    · (conv=>whnf);obtain rfl:=sj_ h;exact lfE [.s [(6003,5004),(5004,6003),(9003,5003),(5003,9003),(9002,5002),(5002,9002)]]
  · (conv=>whnf);refine Qy h (fun _ h=>?_) (fun _ h=>?_)
    · (conv=>whnf);obtain ⟨x,hx,h⟩:=Qa h;obtain rfl:=sj_ h;refine cE [(9002,9001),(9001,9004),(9003,9003),(5001,6003)] 0 (Qul 9002 2000038 (hsC s0 (.osl 9003 0 s0.End.Heard.length) ++ [.d (.bool s1.Up)]) [] [(9003,heA s0.End)] (QdQ hx)) ?_;(conv=>whnf);exact lfE [.s [(6003,5004),(5004,6003),(9003,5003),(5003,9003),(9002,5002),(5002,9002)]]
    · (conv=>whnf);refine Qy h (fun _ h=>?_) (fun _ h=>?_)
      · (conv=>whnf);obtain ⟨x,hx,h⟩:=Qa h;obtain rfl:=sj_ h;refine cC 6000 (Qhy hx) ?_;(conv=>whnf);exact lfE [.f [11001,11002,11003],.s [(11004,5004),(5004,11004),(9003,5003),(5003,9003),(9002,5002),(5002,9002)]]
      · (conv=>whnf);refine Qy h (fun _ h=>?_) (fun _ h=>?_)
        · (conv=>whnf);obtain ⟨x,hx,h⟩:=Qa h;obtain rfl:=sj_ h;refine cE [(9002,9001),(9001,9004),(9003,9003),(5001,6003)] 0 (Qul 9002 2000038 (hsC s0 (.osl 9003 0 s0.End.Heard.length) ++ [.d (.bool true)]) [] [(9003,heA s0.End)] (J6 hx)) ?_;(conv=>whnf);exact lfE [.s [(6003,5004),(5004,6003),(9003,5003),(5003,9003),(9002,5002),(5002,9002)]]
        · (conv=>whnf);obtain ⟨t,ht,h⟩:=Qa h;refine cG (fun c0=>Qax (Qd ht c0)) ?_;(conv=>whnf);refine Qy h (fun _ h=>?_) (fun _ h=>?_)
          · (conv=>whnf);obtain ⟨x,hx,h⟩:=Qa h;obtain rfl:=sj_ h;refine cC 6000 (Zx hx) ?_;(conv=>whnf);exact lfE [.f [11001],.s [(9004,5004),(5004,9004),(9003,5003),(5003,9003),(9002,5002),(5002,9002)]]
          · (conv=>whnf);obtain ⟨t2,ht2,h⟩:=Qa h;refine cG (fun c0=>QbJ (Qd ht2 c0)) ?_;(conv=>whnf);refine Qy h (fun _ h=>?_) (fun _ h=>?_)
            · (conv=>whnf);obtain ⟨y,hy,h⟩:=Qa h;obtain ⟨x,hx,h⟩:=Qa h;obtain rfl:=sj_ h;refine QaJ tOk [.l 0 [(2,.box 78 [.ref 9000 0 0])] (.ref 9000 0 0),.l 1 [(2,.box 78 [.ref 9000 0 0])] (.ref 9000 0 0),.l 4 [(9000,.box 26 [.osl 9001 0 2,.osl 9002 0 rd.length])] (.osl 9002 0 rd.length),.x 6 [(2,.box 78 [.ref 9000 0 0]),(9000,.box 26 [.osl 9001 0 2,.osl 9002 0 rd.length]),(9001,hwS 9003 9004 s0 s1),(9002,hwR rd),(9003,heA s0.End),(9004,heA s1.End)] (.osl 6002 0 y.length) [] [(6002,hwR y),(2,.box 78 [.ref 9000 0 0]),(9000,.box 26 [.osl 9001 0 2,.any]),(9001,hwS 9003 9004 s0 s1),(9003,heA s0.End),(9004,heA s1.End)] [2]] 7 [] [0,0,2,6,14,0,62] [127,255,511] [2,9000,9001,9002,9003,9004] ?_;(conv=>whnf);refine And.intro (by (conv=>whnf); exact ⟨by kernel_rfl,by kernel_rfl⟩) ?_;(conv=>whnf);refine And.intro (by (conv=>whnf); exact ⟨by kernel_rfl,by kernel_rfl⟩) ?_;(conv=>whnf);refine And.intro (by (conv=>whnf); exact ⟨by kernel_rfl,by kernel_rfl⟩) ?_;(conv=>whnf);refine And.intro (eH [(9005,2),(5002,6002)] 0 (Qo8 hy)) ?_;(conv=>whnf);refine And.intro (by kernel_rfl) ?_;(conv=>whnf);refine cC 6000 (QaO hx) ?_;(conv=>whnf);exact lfE [.f [11001],.s [(9004,5004),(5004,9004),(9003,5003),(5003,9003),(6002,5002),(5002,6002)]]
            · (conv=>whnf);obtain rfl:=sj_ h;exact lfE [.s [(9004,5004),(5004,9004),(9003,5003),(5003,9003),(9002,5002),(5002,9002)]]
theorem Qm1 {s0 s1:Qxq} {rd:List Qxr} {kind at_:Int} {want:List Qxm} {keys:List Qxl} {x0:Qxr} (hx1:Qu at_ 0 (IntKind.i64.wrap (((2:Nat):Int) - 1))=some false):EffC Tryz.prog 30 [.ref 9000 0 0,.agg (.d (.int .i64 kind) :: .d (.int .i64 at_) :: .d (slD Qxm.enc want) :: .d (slD Qxl.enc keys) :: hwC x0)] (hwB 9000 9001 9002 9003 9004 s0 s1 rd) (.tup []) (hwB 9000 9001 9002 9003 9004 s0 s1 rd):=by
  refine QS tOk (fn:=Tryz.f30) (c:=Qi Tryz.f30) rfl rfl ?_;(conv=>whnf);refine Qc tOk ?_;(conv=>whnf);refine QU tOk [.u 8 0 (.d (.bool false)) []] 10 [] [0,1,0,4,12,28,60,124,255,511] [] ?_;(conv=>whnf);refine And.intro ⟨⟨Tryz.f49,rfl,by kernel_rfl,by kernel_rfl⟩,⟨_,rfl,Qz hx1⟩⟩ ?_;(conv=>whnf);refine And.intro (by kernel_rfl) ?_;(conv=>whnf);refine ⟨fun _=>?_,fun h0=>by cases h0⟩;(conv=>whnf);exact lfE []
noncomputable def Qed (p q:Qxq) (rd:List Qxr) (kind at_:Int) (want:List Qxm) (keys:List Qxl) (word:Qxr):Option (Qxq × Qxq × List Qxr) :=
 bd (QeP p q rd) fun c =>
(if (kind == 2)=true then
 Qbg c.1 c.2.1 c.2.2 kind at_
else
(if (kind == 3)=true then
 Qbg c.1 c.2.1 c.2.2 kind at_
else
(if (kind == 4)=true then
 Qbg c.1 c.2.1 c.2.2 kind at_
else
(if (kind == 10)=true then
 bd (Jw word) fun b =>
 bd (gcall (b=true) (QeR c.1 c.2.1 word)) fun b2 =>
(if (b && (!b2))=true then
 bd (Qev c.2.2 word) fun y=>some (c.1,c.2.1,y)
else
 some c)
else
(if (at_ == 0)=true then
 QbX c.1 c.2.1 c.2.2 kind want keys
else
(if (at_ == 1)=true then
 QbY c.1 c.2.1 c.2.2 kind want keys
else
 bd (Qu at_ 0 (IntKind.i64.wrap (((2:Nat):Int) - 1))) fun b =>
(if b=true then none else some c)))))))
theorem Qrp {p q:Qxq} {rd:List Qxr} {kind at_:Int} {want:List Qxm} {keys:List Qxl} {word:Qxr} {r:Qxq × Qxq × List Qxr} (h0:Q9 ⟨[p,q],rd⟩=some true) (h:Qed p q rd kind at_ want keys word=some r):EffC Tryz.prog 9 [.agg [.d (slD Qxq.enc [p,q]),.d (slD Qxr.enc rd)],.agg (.d (.int .i64 kind) :: .d (.int .i64 at_) :: .d (slD Qxm.enc want) :: .d (slD Qxl.enc keys) :: hwC word)] [] (.agg [.d (slD Qxq.enc [r.1,r.2.1]),.d (slD Qxr.enc r.2.2)]) []:=by
  refine QS tOk (fn:=Tryz.f9) (c:=Qi Tryz.f9) rfl rfl ?_;unfold Qed at h;(conv=>whnf);refine Qc tOk ?_;(conv=>whnf);refine cC 0 (JM h0) ?_;(conv=>whnf);refine ⟨fun h0=>(by cases h0),fun _=>?_⟩;(conv=>whnf);obtain ⟨c,hc,h⟩:=Qa h;refine cE [(5001,6001),(5002,6002),(5003,6003),(5004,6004)] 0 (QmZ hc) ?_;(conv=>whnf);refine Qc tOk ?_;(conv=>whnf);refine Qc tOk ?_;(conv=>whnf);refine Qy h (fun hk h=>?_) (fun hk h=>?_)
  · (conv=>whnf);refine ⟨fun _=>?_,fun h1=>by rw [hk] at h1; cases h1⟩;(conv=>whnf);refine cE [(9000,5),(9001,6001),(9002,6002),(9003,6003),(9004,6004),(5002,7002),(5003,7003),(5004,7004)] 0 (Qfb h) ?_;(conv=>whnf);exact lfE [.f [7003,7004,7002,6001]]
  · (conv=>whnf);refine Qy h (fun hk h=>?_) (fun hk h=>?_)
    · (conv=>whnf);refine ⟨fun _=>?_,fun h1=>by rw [hk] at h1; cases h1⟩;(conv=>whnf);refine cE [(9000,5),(9001,6001),(9002,6002),(9003,6003),(9004,6004),(5002,7002),(5003,7003),(5004,7004)] 0 (Qfb h) ?_;(conv=>whnf);exact lfE [.f [7003,7004,7002,6001]]
    · (conv=>whnf);refine spI h (fun hk h=>?_) (fun hk h=>?_)
      · refine ⟨fun _=>?_,fun h1=>by rw [hk] at h1; cases h1⟩;(conv=>whnf);refine cE [(9000,5),(9001,6001),(9002,6002),(9003,6003),(9004,6004),(5002,7002),(5003,7003),(5004,7004)] 0 (Qfb h) ?_;(conv=>whnf);exact lfE [.f [7003,7004,7002,6001]]
      · refine ⟨fun h1=>(by rw [hk] at h1; cases h1),fun _=>?_⟩;(conv=>whnf);refine Qy h (fun hk2 h=>?_) (fun hk2 h=>?_)
        · (conv=>whnf);obtain ⟨b,hb,h⟩:=Qa h;refine cC 0 (QcS hb) ?_;(conv=>whnf);obtain ⟨b2,hb2,h⟩:=Qa h;refine cG (fun c0=>Qk0 (rd:=c.2.2) (Qd hb2 c0)) ?_;(conv=>whnf);refine Qy h (fun _ h=>?_) (fun _ h=>?_)
          · (conv=>whnf);obtain ⟨y,hy,h⟩:=Qa h;obtain rfl:=sj_ h;refine cE [(9000,5),(9001,6001),(9002,6002),(9003,6003),(9004,6004),(5002,7002)] 0 (Qje (s0:=c.1) (s1:=c.2.1) hy) ?_;(conv=>whnf);exact lfE [.f [6003,6004,7002,6001]]
          · (conv=>whnf);obtain rfl:=sj_ h;exact lfE [.f [6003,6004,6002,6001]]
        · (conv=>whnf);refine spI h (fun hz h=>?_) (fun hz h=>?_)
          · obtain rfl:at_=0:=by simpa using hz
            refine cE [(9000,5),(9001,6001),(9002,6002),(9003,6003),(9004,6004),(5002,7002),(5003,7003),(5004,7004)] 0 (QfZ h) ?_;(conv=>whnf);exact lfE [.f [7003,7004,7002,6001]]
          · refine spI h (fun hz h=>?_) (fun hz h=>?_)
            · obtain rfl:at_=1:=by simpa using hz
              refine cE [(9000,5),(9001,6001),(9002,6002),(9003,6003),(9004,6004),(5002,7002),(5003,7003),(5004,7004)] 0 (Qf0 h) ?_;(conv=>whnf);exact lfE [.f [7003,7004,7002,6001]]
            · obtain ⟨b,hb,h⟩:=Qa h;refine spI h (fun hz h=>by cases h) (fun hz h=>?_);obtain rfl:=sj_ h;subst hz;refine cE [(9000,5),(9001,6001),(9002,6002),(9003,6003),(9004,6004)] 0 (Qm1 hb) ?_;(conv=>whnf);exact lfE [.f [6003,6004,6002,6001]]
@[reducible] def Qth (n:Int):Int:=(if 100<(if 0 > n then 0 else n) then 100 else (if 0 > n then 0 else n))
@[reducible] def Qti:Qxr:=⟨0,0,0,0,0,0,0,0,⟨0,⟨0,0,0,0⟩⟩,0⟩
noncomputable def Qgo (s:Qxq × Qxq × List Qxr):Option (Qxq × Qxq × List Qxr) :=
 bd (Qcc s.1 s.2.1 s.2.2) fun a =>
 bd (QbX a.1 a.2.1 a.2.2 1 [] []) fun b =>
 bd (QbY b.1 b.2.1 b.2.2 1 [] []) fun c =>
 bd (Qcc c.1 c.2.1 c.2.2) fun d =>
 bd (QbX d.1 d.2.1 d.2.2 5 [] []) fun e =>
 QbY e.1 e.2.1 e.2.2 5 [] []
noncomputable def Qee (p q:Qxq) (rd:List Qxr) (n:Int):Option (Qxq × Qxq × List Qxr) :=
 bd (QeP p q rd) fun c =>
 lp (σ:=(Qxq × Qxq × List Qxr) × Int) (β:=Qxq × Qxq × List Qxr) (fun s =>
(if (decide (s.2<Qth n))=true then
 bd (Qgo s.1) fun y=>some (.inl (y,IntKind.i64.wrap (s.2+1)))
else
 some (.inr s.1))) (c,0)
theorem Qrq {p q:Qxq} {rd:List Qxr} {n:Int} {r:Qxq × Qxq × List Qxr} (h0:Q9 ⟨[p,q],rd⟩=some true) (h:Qee p q rd n=some r):EffC Tryz.prog 10 [.agg [.d (slD Qxq.enc [p,q]),.d (slD Qxr.enc rd)],.d (.int .i64 n)] [] (.agg [.d (slD Qxq.enc [r.1,r.2.1]),.d (slD Qxr.enc r.2.2)]) []:=by
  refine QS tOk (fn:=Tryz.f10) (c:=Qi Tryz.f10) rfl rfl ?_;unfold Qee at h;(conv=>whnf);refine Qc tOk ?_;(conv=>whnf);refine cC 0 (JM h0) ?_;(conv=>whnf);refine ⟨fun h0=>(by cases h0),fun _=>?_⟩;(conv=>whnf);obtain ⟨c,hc,h⟩:=Qa h;refine cE [(5001,6001),(5002,6002),(5003,6003),(5004,6004)] 0 (QmZ hc) ?_;(conv=>whnf);refine Qc tOk ?_;(conv=>whnf);refine Zp tOk h (fun s=>⟨0,Tryz.f10.ntmps,[(4,.ref 4 0 0),(5,.ref 5 0 0),(16,.d (.int .i64 (Qth n))),(17,.d (.int .i64 s.2))],[],(4,.box 26 [.d .nil,.d .nil]) :: hwB 5 6001 6002 6003 6004 s.1.1 s.1.2.1 s.1.2.2,[⟨[],[]⟩]⟩) ?_ ?_
  · exact leX []
  · clear h;intro s y g hy;(conv=>whnf);refine Qc tOk ?_;(conv=>whnf);refine Qy g (fun _ g=>?_) (fun _ g=>?_)
    · (conv=>whnf);obtain ⟨z,hz,g⟩:=Qa g;obtain rfl:=sj_ g;unfold Qgo at hz;obtain ⟨a1,ha1,hz⟩:=Qa hz;obtain ⟨a2,ha2,hz⟩:=Qa hz;obtain ⟨a3,ha3,hz⟩:=Qa hz;obtain ⟨a4,ha4,hz⟩:=Qa hz;obtain ⟨a5,ha5,hz⟩:=Qa hz;refine Qc tOk ?_;(conv=>whnf);refine cE [(9000,5),(9001,6001),(9002,6002),(9003,6003),(9004,6004),(5002,7002),(5003,7003),(5004,7004)] 0 (Qhz ha1) ?_;(conv=>whnf);refine Qc tOk ?_;(conv=>whnf);refine Qo7 tOk 3 ?_;(conv=>whnf);refine Qc tOk ?_;(conv=>whnf);refine ⟨fun _=>?_,fun h0=>by cases h0⟩;(conv=>whnf);refine Qc tOk ?_;(conv=>whnf);refine cE [(9000,5),(9001,6001),(9002,7002),(9003,7003),(9004,7004),(5002,8002),(5003,8003),(5004,8004)] 0 (QfZ (x0:=Qti) ha2) ?_;(conv=>whnf);refine Qc tOk ?_;(conv=>whnf);refine ⟨fun _=>?_,fun h0=>by cases h0⟩;(conv=>whnf);refine Qc tOk ?_;(conv=>whnf);refine cE [(9000,5),(9001,6001),(9002,8002),(9003,8003),(9004,8004),(5002,9002),(5003,9003),(5004,9004)] 0 (Qf0 (x0:=Qti) ha3) ?_;(conv=>whnf);refine Qc tOk ?_;(conv=>whnf);refine ⟨fun h0=>(by cases h0),fun _=>?_⟩;(conv=>whnf);refine cE [(9000,5),(9001,6001),(9002,9002),(9003,9003),(9004,9004),(5002,10002),(5003,10003),(5004,10004)] 0 (Qhz ha4) ?_;(conv=>whnf);refine Qo7 tOk 3 ?_;(conv=>whnf);refine Qc tOk ?_;(conv=>whnf);refine ⟨fun _=>?_,fun h0=>by cases h0⟩;(conv=>whnf);refine Qc tOk ?_;(conv=>whnf);refine cE [(9000,5),(9001,6001),(9002,10002),(9003,10003),(9004,10004),(5002,11002),(5003,11003),(5004,11004)] 0 (QfZ (x0:=Qti) ha5) ?_;(conv=>whnf);refine Qc tOk ?_;(conv=>whnf);refine ⟨fun _=>?_,fun h0=>by cases h0⟩;(conv=>whnf);refine Qc tOk ?_;(conv=>whnf);refine cE [(9000,5),(9001,6001),(9002,11002),(9003,11003),(9004,11004),(5002,12002),(5003,12003),(5004,12004)] 0 (Qf0 (x0:=Qti) hz) ?_;(conv=>whnf);refine Qc tOk ?_;(conv=>whnf);refine ⟨fun h0=>(by cases h0),fun _=>?_⟩;(conv=>whnf);exact ⟨_,rfl,leX [.s [(12002,6002),(6002,12002),(12003,6003),(6003,12003),(12004,6004),(6004,12004)]]⟩
    · (conv=>whnf);obtain rfl:=sj_ g;obtain rfl:=hy _ rfl;exact lfE [.f [6003,6004,6002,6001]]
noncomputable def Qdm (a0:Qxs) (n:Int):Option Qxs :=
 bd (Q9 a0) fun b =>
(if (!b)=true then
 some (⟨[],[]⟩:Qxs)
else
(match a0 with
| ⟨[p,q],rd⟩=>bd (Qee p q rd n) fun z=>some (⟨[z.1,z.2.1],z.2.2⟩:Qxs)
| _=>none))
theorem QkQ {a0 r:Qxs} {n:Int} (h:Qdm a0 n=some r):EffC Tryz.prog 10 [.agg [.d (slD Qxq.enc a0.Sides),.d (slD Qxr.enc a0.Radio)],.d (.int .i64 n)] [] (.agg [.d (slD Qxq.enc r.Sides),.d (slD Qxr.enc r.Radio)]) []:=by
  unfold Qdm at h;obtain ⟨b,hb,h⟩:=Qa h;cases b with
  | false =>
    obtain rfl:=sj_ h;refine QS tOk (fn:=Tryz.f10) (c:=Qi Tryz.f10) rfl rfl ?_;(conv=>whnf);refine Qc tOk ?_;(conv=>whnf);refine cC 0 (JM hb) ?_;(conv=>whnf);refine ⟨fun _=>?_,fun h0=>by cases h0⟩;(conv=>whnf);exact lfE []
  | true =>
    obtain ⟨sides,rd⟩:=a0;cases sides with
    | nil=>cases h
    | cons p l=>cases l with
      | nil=>cases h
      | cons q l=>cases l with
        | cons _ _=>cases h
        | nil =>
          obtain ⟨z,hz,h⟩:=Qa (show bd (Qee p q rd n) (fun z=>some (⟨[z.1,z.2.1],z.2.2⟩:Qxs))=some r from h);obtain rfl:=sj_ h;exact Qrq hb hz
noncomputable def Qdn (a0:Qxs) (kind at_:Int) (want:List Qxm) (keys:List Qxl) (word:Qxr):Option Qxs :=
 bd (Q9 a0) fun b =>
(if (!b)=true then
 some (⟨[],[]⟩:Qxs)
else
(match a0 with
| ⟨[p,q],rd⟩=>bd (Qed p q rd kind at_ want keys word) fun z=>some (⟨[z.1,z.2.1],z.2.2⟩:Qxs)
| _=>none))
theorem QkR {a0 r:Qxs} {kind at_:Int} {want:List Qxm} {keys:List Qxl} {word:Qxr} (h:Qdn a0 kind at_ want keys word=some r):EffC Tryz.prog 9 [.agg [.d (slD Qxq.enc a0.Sides),.d (slD Qxr.enc a0.Radio)],.agg (.d (.int .i64 kind) :: .d (.int .i64 at_) :: .d (slD Qxm.enc want) :: .d (slD Qxl.enc keys) :: hwC word)] [] (.agg [.d (slD Qxq.enc r.Sides),.d (slD Qxr.enc r.Radio)]) []:=by
  unfold Qdn at h;obtain ⟨b,hb,h⟩:=Qa h;cases b with
  | false =>
    obtain rfl:=sj_ h;refine QS tOk (fn:=Tryz.f9) (c:=Qi Tryz.f9) rfl rfl ?_;(conv=>whnf);refine Qc tOk ?_;(conv=>whnf);refine cC 0 (JM hb) ?_;(conv=>whnf);refine ⟨fun _=>?_,fun h0=>by cases h0⟩;(conv=>whnf);exact lfE []
  | true =>
    obtain ⟨sides,rd⟩:=a0;cases sides with
    | nil=>cases h
    | cons p l=>cases l with
      | nil=>cases h
      | cons q l=>cases l with
        | cons _ _=>cases h
        | nil =>
          obtain ⟨z,hz,h⟩:=Qa (show bd (Qed p q rd kind at_ want keys word) (fun z=>some (⟨[z.1,z.2.1],z.2.2⟩:Qxs))=some r from h);obtain rfl:=sj_ h;exact Qrp hb hz
noncomputable def QaG (a0:Qxs) (a1:Qxt):Option (Qxs) :=
 Qdn a0 a1.Kind a1.At a1.Want a1.Keys a1.Word
theorem QfD {a0:Qxs} {a1:Qxt} {r:Qxs} (h:QaG a0 a1=some r):EffC Tryz.prog 9 [.agg [.d (slD Qxq.enc a0.Sides),.d (slD Qxr.enc a0.Radio)],.agg (dI a1.Kind :: dI a1.At :: .d (slD Qxm.enc a1.Want) :: .d (slD Qxl.enc a1.Keys) :: hwC a1.Word)] [] (.agg [.d (slD Qxq.enc r.Sides),.d (slD Qxr.enc r.Radio)]) []:=by
  unfold QaG at h;exact QkR h
noncomputable def Qcv (a0:Qxs) (a1:(List Qxl)):Option (Qxs) :=
 bd (lp (σ:=List Qxq × List Qxr × Int) (β:=((List Qxq) × (List Qxr))) (fun s1 =>
(if (decide (s1.2.2<2))=true then
 bd (QaG (⟨s1.1,s1.2.1⟩:Qxs) (⟨7,s1.2.2,[],[],(⟨0,0,0,0,0,0,0,0,(⟨0,(⟨0,0,0,0⟩:Qxm)⟩:Qxn),0⟩:Qxr)⟩:Qxt)) fun x5 =>
 bd (QaG x5 (⟨9,s1.2.2,[],a1,(⟨0,0,0,0,0,0,0,0,(⟨0,(⟨0,0,0,0⟩:Qxm)⟩:Qxn),0⟩:Qxr)⟩:Qxt)) fun x6 =>
 some (.inl (x6.Sides,x6.Radio,IntKind.i64.wrap (s1.2.2+1)))
else
 some (.inr (s1.1,s1.2.1)))) (a0.Sides,a0.Radio,0)) fun x4 =>
 some (⟨x4.1,x4.2⟩:Qxs)
theorem QkS {a0:Qxs} {a1:(List Qxl)} {r:Qxs} (h:Qcv a0 a1=some r):EffC Tryz.prog 8 [.agg [.d (slD Qxq.enc a0.Sides),.d (slD Qxr.enc a0.Radio)],.d (slD Qxl.enc a1)] [] (.agg [.d (slD Qxq.enc r.Sides),.d (slD Qxr.enc r.Radio)]) []:=by
  refine QS tOk (fn:=Tryz.f8) (c:=Qi Tryz.f8) rfl rfl ?_;unfold Qcv at h;(conv=>whnf);refine Qc tOk ?_;(conv=>whnf);obtain ⟨x4,hx4,h⟩:=Qa h;refine Zp tOk hx4 (fun s1=>⟨0,20,[(1,.d (slD Qxl.enc a1)),(2,.ref 2 0 0),(4,.ref 4 0 0),(5,dI s1.2.2)],[],[(4,.box 26 [.d (.nil),.d (.nil)]),(2,.box 26 [.d (slD Qxq.enc s1.1),.d (slD Qxr.enc s1.2.1)])],[⟨[],[]⟩]⟩) ?_ ?_
  · exact leX []
  · clear hx4;intro s1 y2 g3 hy2;(conv=>whnf);refine Qc tOk ?_;(conv=>whnf);refine Qy g3 (fun _ g3=>?_) (fun _ g3=>?_)
    · (conv=>whnf);refine Qc tOk ?_;(conv=>whnf);obtain ⟨x5,hx5,g3⟩:=Qa g3;refine cE [] 0 (QfD hx5) ?_;(conv=>whnf);obtain ⟨x6,hx6,g3⟩:=Qa g3;refine cE [] 0 (QfD hx6) ?_;(conv=>whnf);obtain rfl:=sj_ g3;exact ⟨_,rfl,leX []⟩
    · (conv=>whnf);obtain rfl:=sj_ g3;obtain rfl:=hy2 _ rfl;obtain rfl:=sj_ h;exact lfE []
noncomputable def QaH (a0:Qxs) (a1:Int):Option (Qxs) :=
 Qdm a0 a1
theorem QfE {a0:Qxs} {a1:Int} {r:Qxs} (h:QaH a0 a1=some r):EffC Tryz.prog 10 [.agg [.d (slD Qxq.enc a0.Sides),.d (slD Qxr.enc a0.Radio)],dI a1] [] (.agg [.d (slD Qxq.enc r.Sides),.d (slD Qxr.enc r.Radio)]) []:=by
  unfold QaH at h;exact QkQ h
noncomputable def Qbs (a0:(List Qxo)):Option ((List Qxm)) :=
 bd (lp (σ:=List Qxm × Int) (β:=(Nat × (List Qxm))) (fun s1 =>
(if (decide (s1.2<((a0.length:Nat):Int)))=true then
 gd ((0:Int)≤s1.2∧s1.2<((a0.length:Nat):Int)) <|
 gd (((s1.1.length)+(([((a0.getD s1.2.toNat default).Entry)]:List Qxm).length))*(32+1)≤70368744177664) <|
 some (.inl ((s1.1 ++ ([((a0.getD s1.2.toNat default).Entry)]:List Qxm)),IntKind.i64.wrap (s1.2+1)))
else
 some (.inr (s1.1.length,s1.1)))) (([]:List Qxm),0)) fun x4 =>
 some x4.2
theorem QfF {a0:(List Qxo)} {r:(List Qxm)} (h:Qbs a0=some r):PureC Tryz.prog 33 [.d (slD Qxo.enc a0)] (.osl 5001 0 r.length) [⟨5001,31,4,r.length,rows Qxm.enc r⟩]:=by
  refine Qq tOk (fn:=Tryz.f33) (c:=Qi Tryz.f33) rfl rfl ?_;unfold Qbs at h;(conv=>whnf);refine Qc tOk ?_;(conv=>whnf);obtain ⟨x4,hx4,h⟩:=Qa h;refine Zp tOk hx4 (fun s1=>⟨0,20,[(3,.osl 7001 0 s1.1.length),(7,.d (slD Qxo.enc a0)),(8,dI ((a0.length:Nat):Int)),(9,dI s1.2)],[],[(7001,.arr 31 4 s1.1.length (rows Qxm.enc s1.1))],[]⟩) ?_ ?_
  · exact leX [.p 7001 31 4 (rows Qxm.enc ([]:List Qxm))]
  · clear hx4;intro s1 y2 g3 hy2;(conv=>whnf);refine Qc tOk ?_;(conv=>whnf);refine Qy g3 (fun _ g3=>?_) (fun _ g3=>?_)
    · (conv=>whnf);refine Qc tOk ?_;(conv=>whnf);refine gdI g3 (fun g3=>?_);(conv=>whnf);refine Qjc (enc:=Qxm.enc) ([((a0.getD s1.2.toNat default).Entry)]:List Qxm) ?_;(conv=>whnf);refine gdI g3 (fun g3=>?_);refine Qjd (enc:=Qxm.enc) (xs:=s1.1) (ys:=([((a0.getD s1.2.toNat default).Entry)]:List Qxm)) ?_;(conv=>whnf);obtain rfl:=sj_ g3;exact ⟨_,rfl,leX []⟩
    · (conv=>whnf);obtain rfl:=sj_ g3;obtain rfl:=hy2 _ rfl;obtain rfl:=sj_ h;exact lfP [.s [(5001,7001),(7001,5001)]]
noncomputable def Qaz (a0:(List Qxo)):Option ((List Qxm)) :=
 bd (lp (σ:=List Qxm × Int) (β:=(Nat × (List Qxm))) (fun s1 =>
(if (decide (s1.2<((a0.length:Nat):Int)))=true then
 gd ((0:Int)≤s1.2∧s1.2<((a0.length:Nat):Int)) <|
 gd (((s1.1.length)+(([((a0.getD s1.2.toNat default).Entry)]:List Qxm).length))*(32+1)≤70368744177664) <|
 some (.inl ((s1.1 ++ ([((a0.getD s1.2.toNat default).Entry)]:List Qxm)),IntKind.i64.wrap (s1.2+1)))
else
 some (.inr (s1.1.length,s1.1)))) (([]:List Qxm),0)) fun x4 =>
 some x4.2
theorem Qg0 {a0:(List Qxo)} {r:(List Qxm)} (h:Qaz a0=some r):EffC Tryz.prog 33 [.d (slD Qxo.enc a0)] [] (.d (slD Qxm.enc r)) []:=by
  refine QS tOk (fn:=Tryz.f33) (c:=Qi Tryz.f33) rfl rfl ?_;unfold Qaz at h;(conv=>whnf);refine Qc tOk ?_;(conv=>whnf);obtain ⟨x4,hx4,h⟩:=Qa h;refine Zp tOk hx4 (fun s1=>⟨0,20,[(3,.osl 7001 0 s1.1.length),(7,.d (slD Qxo.enc a0)),(8,dI ((a0.length:Nat):Int)),(9,dI s1.2)],[],[(7001,.arr 31 4 s1.1.length (rows Qxm.enc s1.1))],[⟨[],[]⟩]⟩) ?_ ?_
  · exact leX [.p 7001 31 4 (rows Qxm.enc ([]:List Qxm))]
  · clear hx4;intro s1 y2 g3 hy2;(conv=>whnf);refine Qc tOk ?_;(conv=>whnf);refine Qy g3 (fun _ g3=>?_) (fun _ g3=>?_)
    · (conv=>whnf);refine Qc tOk ?_;(conv=>whnf);refine gdI g3 (fun g3=>?_);(conv=>whnf);refine Qjc (enc:=Qxm.enc) ([((a0.getD s1.2.toNat default).Entry)]:List Qxm) ?_;(conv=>whnf);refine gdI g3 (fun g3=>?_);refine Qjd (enc:=Qxm.enc) (xs:=s1.1) (ys:=([((a0.getD s1.2.toNat default).Entry)]:List Qxm)) ?_;(conv=>whnf);obtain rfl:=sj_ g3;exact ⟨_,rfl,leX []⟩
    · (conv=>whnf);obtain rfl:=sj_ g3;obtain rfl:=hy2 _ rfl;obtain rfl:=sj_ h;exact lfE [.f [7001]]
noncomputable def QK (a0:(List Qxm)) (a1:(List Qxm)):Option (Bool) :=
(if (((a0.length:Nat):Int) != ((a1.length:Nat):Int))=true then
 some false
else
 bd (lp (σ:=Int) (β:=(Unit ⊕ Unit)) (fun s1 =>
(if (decide (s1<((a0.length:Nat):Int)))=true then
 gd ((0:Int)≤s1∧s1<((a0.length:Nat):Int)) <|
 gd ((0:Int)≤s1∧s1<((a1.length:Nat):Int)) <|
(if (!((((a0.getD s1.toNat default).Addr) == ((a1.getD s1.toNat default).Addr)) && ((((a0.getD s1.toNat default).Len) == ((a1.getD s1.toNat default).Len)) && ((((a0.getD s1.toNat default).Cost) == ((a1.getD s1.toNat default).Cost)) && ((((a0.getD s1.toNat default).Label) == ((a1.getD s1.toNat default).Label)) && true)))))=true then
 some (.inr (.inl ()))
else
 some (.inl (IntKind.i64.wrap (s1+1))))
else
 some (.inr (.inr ())))) 0) fun x4 =>
(match x4 with
| .inl d7 =>
 some false
| .inr d8 =>
 some true))
theorem Ja {a0:(List Qxm)} {a1:(List Qxm)} {r:Bool} (h:QK a0 a1=some r):PureC Tryz.prog 42 [.d (slD Qxm.enc a0),.d (slD Qxm.enc a1)] (dB r) []:=by
  refine Qq tOk (fn:=Tryz.f42) (c:=Qi Tryz.f42) rfl rfl ?_;unfold QK at h;(conv=>whnf);refine Qc tOk ?_;(conv=>whnf);refine Qy h (fun _ h=>?_) (fun _ h=>?_)
  · (conv=>whnf);obtain rfl:=sj_ h;exact lfP []
  · (conv=>whnf);refine Qc tOk ?_;(conv=>whnf);obtain ⟨x4,hx4,h⟩:=Qa h;refine Zp tOk hx4 (fun s1=>⟨0,26,[(0,.d (slD Qxm.enc a0)),(1,.d (slD Qxm.enc a1)),(12,dI ((a0.length:Nat):Int)),(13,dI s1)],[],[],[]⟩) ?_ ?_
    · exact leX []
    · clear hx4;intro s1 y2 g3 hy2;(conv=>whnf);refine Qc tOk ?_;(conv=>whnf);refine Qy g3 (fun _ g3=>?_) (fun _ g3=>?_)
      · (conv=>whnf);refine Qc tOk ?_;(conv=>whnf);obtain ⟨g5,g3⟩:=Qj g3;obtain ⟨g6,g3⟩:=Qj g3;refine QU tOk [] 9 [] [0,0,3,7,0,0,48,112,255] [] ?_;(conv=>whnf);refine And.intro g5 ?_;clear g5;(conv=>whnf);refine And.intro g6 ?_;clear g6;(conv=>whnf);refine And.intro (by kernel_rfl) ?_;(conv=>whnf);refine Qy g3 (fun _ g3=>?_) (fun _ g3=>?_)
        · (conv=>whnf);obtain rfl:=sj_ g3;obtain rfl:=hy2 _ rfl;obtain rfl:=sj_ h;exact lfP []
        · (conv=>whnf);obtain rfl:=sj_ g3;exact ⟨_,rfl,leX []⟩
      · (conv=>whnf);obtain rfl:=sj_ g3;obtain rfl:=hy2 _ rfl;obtain rfl:=sj_ h;exact lfP []
noncomputable def Qaa (a0:Qxs):Option (Bool) :=
 bd (Q9 a0) fun x1 =>
(if (!x1)=true then
 some false
else
 bd (lp (σ:=Int) (β:=(Unit ⊕ Unit)) (fun s2 =>
(if (decide (s2<((a0.Sides.length:Nat):Int)))=true then
 gd ((0:Int)≤s2∧s2<((a0.Sides.length:Nat):Int)) <|
 bd (gcall ((((!((a0.Sides.getD s2.toNat default).Up)) || (!(((a0.Sides.getD s2.toNat default).End).Up))) || (!(((a0.Sides.getD s2.toNat default).End).Full)))=false) (Z9 (((a0.Sides.getD s2.toNat default).End).Heard))) fun x7 =>
 bd (gcall (((((!((a0.Sides.getD s2.toNat default).Up)) || (!(((a0.Sides.getD s2.toNat default).End).Up))) || (!(((a0.Sides.getD s2.toNat default).End).Full))) || x7)=false) (Qaz (((a0.Sides.getD s2.toNat default).End).Heard))) fun x8 =>
 gd (((((!((a0.Sides.getD s2.toNat default).Up)) || (!(((a0.Sides.getD s2.toNat default).End).Up))) || (!(((a0.Sides.getD s2.toNat default).End).Full))) || x7)=false→((0:Int)≤IntKind.i64.wrap (1 - s2)∧IntKind.i64.wrap (1 - s2)<((a0.Sides.length:Nat):Int))) <|
 bd (gcall (((((!((a0.Sides.getD s2.toNat default).Up)) || (!(((a0.Sides.getD s2.toNat default).End).Up))) || (!(((a0.Sides.getD s2.toNat default).End).Full))) || x7)=false) (QK x8 (((a0.Sides.getD ((IntKind.i64.wrap (1 - s2)).toNat) default).End).Want))) fun x10 =>
(if (((((!((a0.Sides.getD s2.toNat default).Up)) || (!(((a0.Sides.getD s2.toNat default).End).Up))) || (!(((a0.Sides.getD s2.toNat default).End).Full))) || x7) || (!x10))=true then
 some (.inr (.inl ()))
else
 some (.inl (IntKind.i64.wrap (s2+1))))
else
 some (.inr (.inr ())))) 0) fun x5 =>
(match x5 with
| .inl d11 =>
 some false
| .inr d12 =>
 some true))
theorem QfG {a0:Qxs} {r:Bool} (h:Qaa a0=some r):PureC Tryz.prog 18 [.agg [.d (slD Qxq.enc a0.Sides),.d (slD Qxr.enc a0.Radio)]] (dB r) []:=by
  refine Qq tOk (fn:=Tryz.f18) (c:=Qi Tryz.f18) rfl rfl ?_;unfold Qaa at h;(conv=>whnf);refine Qc tOk ?_;(conv=>whnf);obtain ⟨x1,hx1,h⟩:=Qa h;refine cC 0 (JM hx1) ?_;clear hx1;(conv=>whnf);refine Qy h (fun _ h=>?_) (fun _ h=>?_)
  · (conv=>whnf);obtain rfl:=sj_ h;exact lfP []
  · (conv=>whnf);refine Qc tOk ?_;(conv=>whnf);obtain ⟨x5,hx5,h⟩:=Qa h;refine Zp tOk hx5 (fun s2=>⟨0,54,[(1,.ref 1 0 0),(9,.d (slD Qxq.enc a0.Sides)),(10,dI ((a0.Sides.length:Nat):Int)),(11,dI s2)],[],[(1,.box 26 [.d (slD Qxq.enc a0.Sides),.d (slD Qxr.enc a0.Radio)])],[]⟩) ?_ ?_
    · exact leX []
    · clear hx5;intro s2 y3 g4 hy3;(conv=>whnf);refine Qc tOk ?_;(conv=>whnf);refine Qy g4 (fun _ g4=>?_) (fun _ g4=>?_)
      · (conv=>whnf);refine Qc tOk ?_;(conv=>whnf);refine gdI g4 (fun g4=>?_);(conv=>whnf);obtain ⟨x7,hx7,g4⟩:=Qa g4;obtain ⟨x8,hx8,g4⟩:=Qa g4;obtain ⟨g9,g4⟩:=Qj g4;obtain ⟨x10,hx10,g4⟩:=Qa g4;refine QaJ tOk [.u 19 0 (dB x7) [],.e 25 [] (.d (slD Qxm.enc x8)) [] [],.u 34 0 (dB x10) []] 37 [] [0,1,3,7,15,31,63,127,255,511,1023,2047,4095,8191,16383,32767,65535,131071,262143,524287,1048575,2097151,4194303,8388607,16777215,33554431,4194303,71303167,4194303,272629759,1010827263,2084569087,4232052735,8527020031,17179869183,34359738367,68719476735] [] [] ?_;(conv=>whnf);refine And.intro (Q8 rfl rfl rfl rfl (by intro c0; exact QcT (Qd hx7 c0))) ?_;(conv=>whnf);refine And.intro (And.intro ⟨⟨Tryz.f33,rfl,rfl,rfl⟩⟩ (And.intro (by intro c0; exact eD [] 0 (Qg0 (Qd hx8 c0))) (Qes inA))) ?_;(conv=>whnf);refine And.intro g9 ?_;clear g9;(conv=>whnf);refine And.intro (Q8 rfl rfl rfl rfl (by intro c0; exact Ja (Qd hx10 c0))) ?_;(conv=>whnf);refine And.intro (by kernel_rfl) ?_;(conv=>whnf);refine Qy g4 (fun _ g4=>?_) (fun _ g4=>?_)
        · (conv=>whnf);obtain rfl:=sj_ g4;obtain rfl:=hy3 _ rfl;obtain rfl:=sj_ h;exact lfP []
        · (conv=>whnf);obtain rfl:=sj_ g4;exact ⟨_,rfl,leX []⟩
      · (conv=>whnf);obtain rfl:=sj_ g4;obtain rfl:=hy3 _ rfl;obtain rfl:=sj_ h;exact lfP []
noncomputable def Qdo (a0:Qxo):Option (Bool) :=
 some a0.Stale
theorem QgM {a0:Qxo} {r:Bool} (h:Qdo a0=some r):PureC Tryz.prog 109 [.agg (hnC a0.Entry ++ [dB a0.Stale])] (dB r) []:=by
  refine Qq tOk (fn:=Tryz.f109) (c:=Qi Tryz.f109) rfl rfl ?_;unfold Qdo at h;(conv=>whnf);obtain rfl:=sj_ h;exact lfP []
noncomputable def Q1 (a0:(List Qxo)):Option (Int) :=
 bd (lp (σ:=Int) (β:=(Int ⊕ Unit)) (fun s1 =>
(if (decide (s1<((a0.length:Nat):Int)))=true then
 gd ((0:Int)≤s1∧s1<((a0.length:Nat):Int)) <|
 bd (Qdo (⟨((a0.getD s1.toNat default).Entry),(a0.getD s1.toNat default).Stale⟩:Qxo)) fun x6 =>
(if x6=true then
 some (.inr (.inl s1))
else
 some (.inl (IntKind.i64.wrap (s1+1))))
else
 some (.inr (.inr ())))) 0) fun x4 =>
(match x4 with
| .inl d7 =>
 some d7
| .inr d8 =>
 some (-1))
theorem Qaj {a0:(List Qxo)} {r:Int} (h:Q1 a0=some r):PureC Tryz.prog 122 [.d (slD Qxo.enc a0),.fn 109 []] (dI r) []:=by
  refine Qq tOk (fn:=Tryz.f122) (c:=Qi Tryz.f122) rfl rfl ?_;unfold Q1 at h;(conv=>whnf);refine Qc tOk ?_;(conv=>whnf);obtain ⟨x4,hx4,h⟩:=Qa h;refine Zp tOk hx4 (fun s1=>⟨0,19,[(0,.d (slD Qxo.enc a0)),(1,.fn 109 []),(7,dI ((a0.length:Nat):Int)),(8,dI s1)],[],[],[]⟩) ?_ ?_
  · exact leX []
  · clear hx4;intro s1 y2 g3 hy2;(conv=>whnf);refine Qc tOk ?_;(conv=>whnf);refine Qy g3 (fun _ g3=>?_) (fun _ g3=>?_)
    · (conv=>whnf);refine Qc tOk ?_;(conv=>whnf);refine gdI g3 (fun g3=>?_);(conv=>whnf);obtain ⟨x6,hx6,g3⟩:=Qa g3;refine cC 0 (QgM hx6) ?_;clear hx6;(conv=>whnf);refine Qy g3 (fun _ g3=>?_) (fun _ g3=>?_)
      · (conv=>whnf);obtain rfl:=sj_ g3;obtain rfl:=hy2 _ rfl;obtain rfl:=sj_ h;exact lfP []
      · (conv=>whnf);obtain rfl:=sj_ g3;exact ⟨_,rfl,leX []⟩
    · (conv=>whnf);obtain rfl:=sj_ g3;obtain rfl:=hy2 _ rfl;obtain rfl:=sj_ h;exact lfP []
noncomputable def Qv (a0:(List Qxo)):Option ((List Qxo)) :=
 bd (Q1 a0) fun x1 =>
(if (x1 == (-1))=true then
 some a0
else
 bd (lp (σ:=List Qxo × Int × Int) (β:=(Nat × Int × (List Qxo))) (fun s2 =>
(if (decide (s2.2.2<((s2.1.length:Nat):Int)))=true then
 gd ((0:Int)≤s2.2.2∧s2.2.2<((s2.1.length:Nat):Int)) <|
 bd (Qdo (⟨((s2.1.getD s2.2.2.toNat default).Entry),(s2.1.getD s2.2.2.toNat default).Stale⟩:Qxo)) fun x7 =>
(if (!x7)=true then
 gd ((0:Int)≤s2.2.1∧s2.2.1<((s2.1.length:Nat):Int)) <|
 bd (some (s2.1.set s2.2.1.toNat (⟨((s2.1.getD s2.2.2.toNat default).Entry),(s2.1.getD s2.2.2.toNat default).Stale⟩:Qxo))) fun x9 =>
 some (.inl (x9,IntKind.i64.wrap (s2.2.1+1),IntKind.i64.wrap (s2.2.2+1)))
else
 some (.inl (s2.1,s2.2.1,IntKind.i64.wrap (s2.2.2+1))))
else
 some (.inr (s2.1.length,s2.2.1,s2.1)))) (a0,x1,IntKind.i64.wrap (x1+1))) fun x5 =>
 gd ((0:Int)≤x5.2.1∧x5.2.1≤((x5.1:Nat):Int)∧((x5.1:Nat):Int)≤((x5.1:Nat):Int)) <|
 gd ((0:Int)≤(0:Int)∧(0:Int)≤x5.2.1∧x5.2.1≤((x5.1:Nat):Int)) <|
 some ((Qqq x5.2.2 x5.2.1.toNat (Qdb ((x5.1:Nat):Int) x5.2.1)).take x5.2.1.toNat))
theorem Zs {a0:(List Qxo)} {r:(List Qxo)} (h:Qv a0=some r):EffC Tryz.prog 108 [.osl 9000 0 a0.length,.fn 109 []] [(9000,.arr 96 5 a0.length (rows Qxo.enc a0))] (.osl 5001 0 r.length) [(5001,.arr 96 5 r.length (rows Qxo.enc r))]:=by
  refine QS tOk (fn:=Tryz.f108) (c:=Qi Tryz.f108) rfl rfl ?_;unfold Qv at h;(conv=>whnf);obtain ⟨x1,hx1,h⟩:=Qa h;refine cC 0 (Qaj hx1) ?_;clear hx1;(conv=>whnf);refine Qc tOk ?_;(conv=>whnf);refine Qy h (fun _ h=>?_) (fun _ h=>?_)
  · (conv=>whnf);obtain rfl:=sj_ h;exact lfE [.s [(5001,9000),(9000,5001)]]
  · (conv=>whnf);refine Qc tOk ?_;(conv=>whnf);obtain ⟨x5,hx5,h⟩:=Qa h;refine Zp tOk hx5 (fun s2=>⟨0,42,[(0,.osl 9000 0 s2.1.length),(1,.fn 109 []),(5,dI s2.2.1),(6,dI s2.2.2)],[],[(9000,.arr 96 5 s2.1.length (rows Qxo.enc s2.1))],[⟨[],[]⟩]⟩) ?_ ?_
    · exact leX []
    · clear hx5;intro s2 y3 g4 hy3;(conv=>whnf);refine Qc tOk ?_;(conv=>whnf);refine Qy g4 (fun _ g4=>?_) (fun _ g4=>?_)
      · (conv=>whnf);refine Qc tOk ?_;(conv=>whnf);refine gdI g4 (fun g4=>?_);(conv=>whnf);obtain ⟨x7,hx7,g4⟩:=Qa g4;refine cC 0 (QgM hx7) ?_;clear hx7;(conv=>whnf);refine Qy g4 (fun _ g4=>?_) (fun _ g4=>?_)
        · (conv=>whnf);refine gdI g4 (fun g4=>?_);(conv=>whnf);obtain ⟨x9,hx9,hlx9,g4⟩:=QjG g4;refine QuU (enc:=Qxo.enc) hx9 ?_;(conv=>whnf);obtain rfl:=sj_ g4;exact ⟨_,rfl,leX []⟩
        · (conv=>whnf);obtain rfl:=sj_ g4;exact ⟨_,rfl,leX []⟩
      · (conv=>whnf);obtain rfl:=sj_ g4;obtain rfl:=hy3 _ rfl;dsimp only at h;obtain ⟨g11,h⟩:=Qj h;refine And.intro g11 ?_;(conv=>whnf);refine ⟨rows Qxo.enc (Qqq (s2.1.length,s2.2.1,s2.1).2.2 (s2.1.length,s2.2.1,s2.1).2.1.toNat (Qdb (((s2.1.length,s2.2.1,s2.1).1:Nat):Int) (s2.1.length,s2.2.1,s2.1).2.1)),QlX QkZ rfl,?_⟩;(conv=>whnf);obtain ⟨g12,h⟩:=Qj h;refine And.intro g12 ?_;(conv=>whnf);obtain rfl:=sj_ h;exact lfE [.c 4,.s [(5001,9000),(9000,5001)]]
noncomputable def Qdv (a0:(List Qxo)):Option ((List Qxm)) :=
 bd (ZA a0) fun x1 =>
 bd (Qv x1) fun x2 =>
 bd (Qbs x2) fun x3 =>
 some x3
theorem Qm2 {a0:(List Qxo)} {r:(List Qxm)} (h:Qdv a0=some r):PureC Tryz.prog 72 [.d (slD Qxo.enc a0)] (.osl 5001 0 r.length) [⟨5001,31,4,r.length,rows Qxm.enc r⟩]:=by
  refine Qq tOk (fn:=Tryz.f72) (c:=Qi Tryz.f72) rfl rfl ?_;unfold Qdv at h;(conv=>whnf);obtain ⟨x1,hx1,h⟩:=Qa h;refine cC 1000 (Qbf hx1) ?_;clear hx1;(conv=>whnf);obtain ⟨x2,hx2,h⟩:=Qa h;refine cE [(9000,6001)] 2000 (Zs hx2) ?_;(conv=>whnf);obtain ⟨x3,hx3,h⟩:=Qa h;refine cC 3000 (QfF hx3) ?_;clear hx3;(conv=>whnf);obtain rfl:=sj_ h;exact lfP [.s [(5001,8001),(8001,5001)]]
noncomputable def QcW (a0:(List Qxo)):Option ((List Qxm)) :=
 bd (ZA a0) fun x1 =>
 bd (Qv x1) fun x2 =>
 bd (Qbs x2) fun x3 =>
 some x3
theorem QjK {a0:(List Qxo)} {r:(List Qxm)} (h:QcW a0=some r):EffC Tryz.prog 72 [.d (slD Qxo.enc a0)] [] (.d (slD Qxm.enc r)) []:=by
  refine QS tOk (fn:=Tryz.f72) (c:=Qi Tryz.f72) rfl rfl ?_;unfold QcW at h;(conv=>whnf);obtain ⟨x1,hx1,h⟩:=Qa h;refine cC 1000 (Qbf hx1) ?_;clear hx1;(conv=>whnf);obtain ⟨x2,hx2,h⟩:=Qa h;refine cE [(9000,6001)] 2000 (Zs hx2) ?_;(conv=>whnf);obtain ⟨x3,hx3,h⟩:=Qa h;refine cC 3000 (QfF hx3) ?_;clear hx3;(conv=>whnf);obtain rfl:=sj_ h;exact lfE [.f [8001]]
noncomputable def QcL (a0:Qxp) (a1:Qxp):Option (Bool) :=
 bd (gcall (a0.All=true) (Z9 a1.Heard)) fun x1 =>
(if (a0.All && x1)=true then
 some false
else
(if ((a0.Under.Kind != 0) && (a1.Got == (IntKind.i64.wrap (a0.Num - 1))))=true then
 bd (Qdv a1.Heard) fun x2 =>
 bd (QK x2 a0.Told) fun x3 =>
 some (x3 && (a1.Full == a0.All))
else
 bd (gcall ((a1.Got == a0.Num)=true) (QcW a1.Heard)) fun x4 =>
 bd (gcall ((a1.Got == a0.Num)=true) (Qap a0.Told a0.Under)) fun x5 =>
 bd (gcall ((a1.Got == a0.Num)=true) (QK x4 x5)) fun x6 =>
 some (((a1.Got == a0.Num) && x6) && (a1.Full == (a0.All || (a0.Under.Kind == 3))))))
theorem QiL {a0:Qxp} {a1:Qxp} {r:Bool} (h:QcL a0 a1=some r):PureC Tryz.prog 36 [.agg (heC a0 (.d (slD Qxo.enc a0.Heard))),.agg (heC a1 (.d (slD Qxo.enc a1.Heard)))] (dB r) []:=by
  refine Qq tOk (fn:=Tryz.f36) (c:=Qi Tryz.f36) rfl rfl ?_;unfold QcL at h;(conv=>whnf);refine Qc tOk ?_;(conv=>whnf);obtain ⟨x1,hx1,h⟩:=Qa h;refine cG (fun c0=>QcT (Qd hx1 c0)) ?_;(conv=>whnf);refine Qy h (fun _ h=>?_) (fun _ h=>?_)
  · (conv=>whnf);obtain rfl:=sj_ h;exact lfP []
  · (conv=>whnf);refine Qc tOk ?_;(conv=>whnf);refine Qy h (fun _ h=>?_) (fun _ h=>?_)
    · (conv=>whnf);obtain ⟨x2,hx2,h⟩:=Qa h;obtain ⟨x3,hx3,h⟩:=Qa h;refine QU tOk [.u 2 1000 (.osl 5001 0 x2.length) [⟨5001,31,4,x2.length,rows Qxm.enc x2⟩],.u 5 0 (dB x3) []] 14 [] [0,1,3,0,8,31,63,127,255,127,639,2047,4095,8191] [] ?_;(conv=>whnf);refine And.intro (QL (Qm2 hx2) (by kernel_rfl)) ?_;(conv=>whnf);refine And.intro (QL (Ja hx3) (by kernel_rfl)) ?_;(conv=>whnf);refine And.intro (by kernel_rfl) ?_;(conv=>whnf);obtain rfl:=sj_ h;exact lfP []
    · (conv=>whnf);obtain ⟨x4,hx4,h⟩:=Qa h;obtain ⟨x5,hx5,h⟩:=Qa h;obtain ⟨x6,hx6,h⟩:=Qa h;refine QaJ tOk [.e 8 [] (.d (slD Qxm.enc x4)) [] [],.e 13 [] (.d (slD Qxm.enc x5)) [] [],.u 14 0 (dB x6) []] 30 [] [0,1,0,4,15,31,63,127,255,63,575,63,2111,8191,16383,32767,65535,131071,262143,131071,655359,1703935,3801087,7995391,16383999,33161215,66715647,134217727,268435455,536870911] [] [] ?_;(conv=>whnf);refine And.intro (And.intro ⟨⟨Tryz.f72,rfl,rfl,rfl⟩⟩ (And.intro (by intro c0; exact eD [] 0 (QjK (Qd hx4 c0))) (Qes inA))) ?_;(conv=>whnf);refine And.intro (And.intro ⟨⟨Tryz.f66,rfl,rfl,rfl⟩⟩ (And.intro (by intro c0; exact eD [] 0 (QeN (Qd hx5 c0))) (Qes inA))) ?_;(conv=>whnf);refine And.intro (Q8 rfl rfl rfl rfl (by intro c0; exact Ja (Qd hx6 c0))) ?_;(conv=>whnf);refine And.intro (by kernel_rfl) ?_;(conv=>whnf);obtain rfl:=sj_ h;exact lfP []
noncomputable def Qbt (a0:Qxs):Option (Bool) :=
 bd (Q9 a0) fun x1 =>
(if (!x1)=true then
 some false
else
 gd ((0:Int)≤0∧0<((a0.Sides.length:Nat):Int)) <|
 gd ((0:Int)≤1∧1<((a0.Sides.length:Nat):Int)) <|
(if ((((!((a0.Sides.getD 0 default).Up)) || (!((a0.Sides.getD 1 default).Up))) || ((((a0.Sides.getD 0 default).End).PeerBoot) != (((a0.Sides.getD 1 default).End).Boot))) || ((((a0.Sides.getD 1 default).End).PeerBoot) != (((a0.Sides.getD 0 default).End).Boot)))=true then
 some true
else
 bd (QcL ({ ((a0.Sides.getD 0 default).End) with Under:=(⟨(((a0.Sides.getD 0 default).End).Under).Kind,((((a0.Sides.getD 0 default).End).Under).Entry)⟩:Qxn) }) ({ ((a0.Sides.getD 1 default).End) with Under:=(⟨(((a0.Sides.getD 1 default).End).Under).Kind,((((a0.Sides.getD 1 default).End).Under).Entry)⟩:Qxn) })) fun x4 =>
 bd (gcall (x4=true) (QcL ({ ((a0.Sides.getD 1 default).End) with Under:=(⟨(((a0.Sides.getD 1 default).End).Under).Kind,((((a0.Sides.getD 1 default).End).Under).Entry)⟩:Qxn) }) ({ ((a0.Sides.getD 0 default).End) with Under:=(⟨(((a0.Sides.getD 0 default).End).Under).Kind,((((a0.Sides.getD 0 default).End).Under).Entry)⟩:Qxn) }))) fun x5 =>
 some (x4 && x5)))
theorem Qi6 {a0:Qxs} {r:Bool} (h:Qbt a0=some r):PureC Tryz.prog 14 [.agg [.d (slD Qxq.enc a0.Sides),.d (slD Qxr.enc a0.Radio)]] (dB r) []:=by
  refine Qq tOk (fn:=Tryz.f14) (c:=Qi Tryz.f14) rfl rfl ?_;unfold Qbt at h;(conv=>whnf);refine Qc tOk ?_;(conv=>whnf);obtain ⟨x1,hx1,h⟩:=Qa h;refine cC 0 (JM hx1) ?_;clear hx1;(conv=>whnf);refine Qy h (fun _ h=>?_) (fun _ h=>?_)
  · (conv=>whnf);obtain rfl:=sj_ h;exact lfP []
  · (conv=>whnf);obtain ⟨g2,h⟩:=Qj h;obtain ⟨g3,h⟩:=Qj h;refine QaJ tOk [.a 8 [] (.ref 3 0 0) [(3,.box 38 [dB false,dI 0,dI 0,.d (.nil),dI 0,.d (.nil),dI 0,dI 0,dI 0,dB false,dI 0,dI 0,dI 0,dI 0,dI 0,dI 0,dI 0,.d (.nil),dB false,dI 0,dB false,.d (.nil),dI 0])],.a 9 [] (.ref 4 0 0) [(4,.box 38 [dB false,dI 0,dI 0,.d (.nil),dI 0,.d (.nil),dI 0,dI 0,dI 0,dB false,dI 0,dI 0,dI 0,dI 0,dI 0,dI 0,dI 0,.d (.nil),dB false,dI 0,dB false,.d (.nil),dI 0])],.a 10 [(3,.box 38 [dB false,dI 0,dI 0,.d (.nil),dI 0,.d (.nil),dI 0,dI 0,dI 0,dB false,dI 0,dI 0,dI 0,dI 0,dI 0,dI 0,dI 0,.d (.nil),dB false,dI 0,dB false,.d (.nil),dI 0])] (.any) [(3,.box 38 (dB ((a0.Sides.getD 0 default).Up) :: heC ((a0.Sides.getD 0 default).End) (.d (slD Qxo.enc (((a0.Sides.getD 0 default).End).Heard)))))],.a 11 [(4,.box 38 [dB false,dI 0,dI 0,.d (.nil),dI 0,.d (.nil),dI 0,dI 0,dI 0,dB false,dI 0,dI 0,dI 0,dI 0,dI 0,dI 0,dI 0,.d (.nil),dB false,dI 0,dB false,.d (.nil),dI 0])] (.any) [(4,.box 38 (dB ((a0.Sides.getD 1 default).Up) :: heC ((a0.Sides.getD 1 default).End) (.d (slD Qxo.enc (((a0.Sides.getD 1 default).End).Heard)))))]] 12 [] [0,1,3,7,0,16,48,112,0,0,783,2047] [] [] ?_;(conv=>whnf);refine And.intro g2 ?_;clear g2;(conv=>whnf);refine And.intro g3 ?_;clear g3;(conv=>whnf);refine And.intro (by (conv=>whnf); exact ⟨rfl,rfl⟩) ?_;(conv=>whnf);refine And.intro (by (conv=>whnf); exact ⟨rfl,rfl⟩) ?_;(conv=>whnf);refine And.intro (by (conv=>whnf); exact ⟨rfl,rfl⟩) ?_;(conv=>whnf);refine And.intro (by (conv=>whnf); exact ⟨rfl,rfl⟩) ?_;(conv=>whnf);refine And.intro (by kernel_rfl) ?_;(conv=>whnf);refine Qc tOk ?_;(conv=>whnf);refine Qy h (fun _ h=>?_) (fun _ h=>?_)
    · (conv=>whnf);obtain rfl:=sj_ h;exact lfP []
    · (conv=>whnf);obtain ⟨x4,hx4,h⟩:=Qa h;refine cC 0 (QiL hx4) ?_;clear hx4;(conv=>whnf);obtain ⟨x5,hx5,h⟩:=Qa h;refine cG (fun c0=>QiL (Qd hx5 c0)) ?_;(conv=>whnf);obtain rfl:=sj_ h;exact lfP []
noncomputable def QbL (a0:(List Int)) (a1:(List Int)):Option (Bool) :=
(if ((decide (((a0.length:Nat):Int) > 1048576)) || (decide (((a1.length:Nat):Int) > 1048576)))=true then
 some true
else
 bd (ZT a0) fun x1 =>
 bd (ZT a1) fun x2 =>
 gd ((0:Int)≤0∧0<((x2.Sides.length:Nat):Int)) <|
 bd (Qcv x1 (((x2.Sides.getD 0 default).End).Keys)) fun x4 =>
 bd (QaH x4 44) fun x5 =>
 bd (Qaa x5) fun x6 =>
 bd (gcall (x6=true) (Qbt x5)) fun x7 =>
 gd ((x6 && x7)=true→((9:Int) ≠ 0)) <|
 bd (gcall ((x6 && x7)=true) (QaH x5 (IntKind.i64.wrap (1+((((a1.length:Nat):Int):Int).tmod 9))))) fun x9 =>
 bd (gcall ((x6 && x7)=true) (Qaa x9)) fun x10 =>
 some ((x6 && x7) && x10))
theorem QhC {a0:(List Int)} {a1:(List Int)} {r:Bool} (h:QbL a0 a1=some r):PureC Tryz.prog 5 [.d (slD QN a0),.d (slD QN a1)] (dB r) []:=by
  refine Qq tOk (fn:=Tryz.f5) (c:=Qi Tryz.f5) rfl rfl ?_;unfold QbL at h;(conv=>whnf);refine Qc tOk ?_;(conv=>whnf);refine Qy h (fun _ h=>?_) (fun _ h=>?_)
  · (conv=>whnf);obtain rfl:=sj_ h;exact lfP []
  · (conv=>whnf);obtain ⟨x1,hx1,h⟩:=Qa h;refine cE [] 1000 (QcR hx1) ?_;(conv=>whnf);obtain ⟨x2,hx2,h⟩:=Qa h;refine cE [] 2000 (QcR hx2) ?_;(conv=>whnf);refine gdI h (fun h=>?_);(conv=>whnf);obtain ⟨x4,hx4,h⟩:=Qa h;refine Qet [6001,6002] ?_;(conv=>whnf);refine cE [] 0 (QkS hx4) ?_;(conv=>whnf);obtain ⟨x5,hx5,h⟩:=Qa h;refine cE [] 0 (QfE hx5) ?_;(conv=>whnf);obtain ⟨x6,hx6,h⟩:=Qa h;refine cC 0 (QfG hx6) ?_;clear hx6;(conv=>whnf);obtain ⟨x7,hx7,h⟩:=Qa h;refine cG (fun c0=>Qi6 (Qd hx7 c0)) ?_;(conv=>whnf);refine gdI h (fun h=>?_);(conv=>whnf);obtain ⟨x9,hx9,h⟩:=Qa h;refine QlT [] 0 rfl rfl rfl (by intro c0; exact QfE (Qd hx9 c0)) Qo4 inA rfl rfl (Qes inA) ?_;(conv=>whnf);obtain ⟨x10,hx10,h⟩:=Qa h;refine cG (fun c0=>QfG (Qd hx10 c0)) ?_;(conv=>whnf);obtain rfl:=sj_ h;exact lfP []
end Go.Proofs.YtjgjdobkahdgfaaGreat
