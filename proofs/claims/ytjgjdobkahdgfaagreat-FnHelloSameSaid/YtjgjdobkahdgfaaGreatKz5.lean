/-
  What some of the program's functions compute: their models, and that the functions compute these; no condition.
-/
import Derived.Test.YtjgjdobkahdgfaaGreatTyz
import Derived.Test.YtjgjdobkahdgfaaGreatTbz
import Derived.Test.YtjgjdobkahdgfaaGreatAbz7
import Derived.Test.YtjgjdobkahdgfaaGreatKz4
set_option linter.all false
namespace Go.Proofs.YtjgjdobkahdgfaaGreat
open Go Go.Ab
set_option maxRecDepth 100000
set_option maxHeartbeats 40000000
noncomputable def Qa9 (s0 s1:Qxc) (rd:List Qxd) (kind at_:Int):Option (Qxc × Qxc × List Qxd) :=
 bd (Qu at_ 0 (IntKind.i64.wrap (((rd.length:Nat):Int) - 1))) fun x1 =>
(if (!x1)=true then
 some (s0,s1,rd)
else
 gd ((0:Int)≤at_∧at_<((rd.length:Nat):Int)) <|
(if (kind == 3)=true then
 bd (Qem rd (rd.getD at_.toNat default)) fun y=>some (s0,s1,y)
else
 bd (Q7 rd at_ (IntKind.i64.wrap (at_+1))) fun y =>
(if (kind == 2)=true then
 bd (QeE s0 s1 (rd.getD at_.toNat default)) fun z=>some (z.1,z.2,y)
else
 some (s0,s1,y))))
theorem Qe2 {s0 s1:Qxc} {rd:List Qxd} {kind at_:Int} {r:Qxc × Qxc × List Qxd} (h:Qa9 s0 s1 rd kind at_=some r):EffC Tryz.prog 26 [.ref 9000 0 0,.d (.int .i64 kind),.d (.int .i64 at_)] (hwB 9000 9001 9002 9003 9004 s0 s1 rd) (.tup []) (hwB 9000 9001 5002 5003 5004 r.1 r.2.1 r.2.2):=by
  refine QS tOk (fn:=Tryz.f26) (c:=Ql Tryz.f26) rfl rfl ?_;unfold Qa9 at h;(conv=>whnf);refine Qc tOk ?_;(conv=>whnf);obtain ⟨x1,hx1,h⟩:=Qa h;refine cC 0 (Qx hx1) ?_;clear hx1;(conv=>whnf);refine QA h (fun _ h=>?_) (fun _ h=>?_)
  · (conv=>whnf);obtain rfl:=sj_ h;exact lfE [.s [(9002,5002),(5002,9002),(9003,5003),(5003,9003),(9004,5004),(5004,9004)]]
  · (conv=>whnf);refine gdI h (fun h=>?_);(conv=>whnf);refine Qc tOk ?_;(conv=>whnf);refine QA h (fun _ h=>?_) (fun _ h=>?_)
    · (conv=>whnf);obtain ⟨y,hy,h⟩:=Qa h;obtain rfl:=sj_ h;refine cE [(5002,6002)] 0 (Qi2 (s0:=s0) (s1:=s1) hy) ?_;(conv=>whnf);exact lfE [.s [(6002,5002),(5002,6002),(9003,5003),(5003,9003),(9004,5004),(5004,9004)]]
    · (conv=>whnf);obtain ⟨y,hy,h⟩:=Qa h;refine cE [(9000,9002),(5001,6002)] 0 (Qcy hy) ?_;(conv=>whnf);refine QA h (fun _ h=>?_) (fun _ h=>?_)
      · (conv=>whnf);obtain ⟨z,hz,h⟩:=Qa h;obtain rfl:=sj_ h;refine cE [(9002,6002),(5003,6003),(5004,6004)] 0 (Qqc (rd:=y) hz) ?_;(conv=>whnf);exact lfE [.s [(6002,5002),(5002,6002),(6003,5003),(5003,6003),(6004,5004),(5004,6004)]]
      · (conv=>whnf);obtain rfl:=sj_ h;exact lfE [.s [(6002,5002),(5002,6002),(9003,5003),(5003,9003),(9004,5004),(5004,9004)]]
noncomputable def Qb5 (s0 s1:Qxc) (rd:List Qxd):Option (Qxc × Qxc × List Qxd) :=
 lp (σ:=Qxc × Qxc × List Qxd) (β:=Qxc × Qxc × List Qxd) (fun s =>
(if (decide (((s.2.2.length:Nat):Int) > 0))=true then
 bd (Qa9 s.1 s.2.1 s.2.2 2 0) fun y=>some (.inl y)
else
 some (.inr s))) (s0,s1,rd)
theorem Qhp {s0 s1:Qxc} {rd:List Qxd} {r:Qxc × Qxc × List Qxd} (h:Qb5 s0 s1 rd=some r):EffC Tryz.prog 31 [.ref 9000 0 0] (hwB 9000 9001 9002 9003 9004 s0 s1 rd) (.tup []) (hwB 9000 9001 5002 5003 5004 r.1 r.2.1 r.2.2):=by
  refine QS tOk (fn:=Tryz.f31) (c:=Ql Tryz.f31) rfl rfl ?_;unfold Qb5 at h;(conv=>whnf);refine Zm tOk h (fun s=>⟨0,10,[(0,.ref 9000 0 0)],[],hwB 9000 9001 9002 9003 9004 s.1 s.2.1 s.2.2,[⟨[(0,.ref 9000 0 0),(1,.osl 9001 0 2)],[]⟩]⟩) ?_ ?_
  · exact leX []
  · clear h;intro s y g hy;(conv=>whnf);refine Qc tOk ?_;(conv=>whnf);refine QA g (fun _ g=>?_) (fun _ g=>?_)
    · (conv=>whnf);obtain ⟨z,hz,g⟩:=Qa g;obtain rfl:=sj_ g;refine cE [(5002,6002),(5003,6003),(5004,6004)] 0 (Qe2 hz) ?_;(conv=>whnf);exact ⟨_,rfl,leX [.s [(6002,9002),(9002,6002),(6003,9003),(9003,6003),(6004,9004),(9004,6004)]]⟩
    · (conv=>whnf);obtain rfl:=sj_ g;obtain rfl:=hy _ rfl;exact lfE [.s [(9002,5002),(5002,9002),(9003,5003),(5003,9003),(9004,5004),(5004,9004)]]
noncomputable def QeF (s0 s1:Qxc) (x:Qxd):Option Bool:=Qj [s0,s1] x
theorem QkM {s0 s1:Qxc} {rd:List Qxd} {x:Qxd} {r:Bool} (h:QeF s0 s1 x=some r):PureC Tryz.prog 28 [.rp [.sl 2 (QmK 23 (Qxc.enc s0 ++ Qxc.enc s1)),slD Qxd.enc rd],.agg (hwC x)] (.d (.bool r)) []:=by
  have h2:ZG ⟨[s0,s1],rd⟩ x=some r:=by
    unfold ZG;rw [show Qj [s0,s1] x=some r from h];rfl
  exact PureC.le (vs:=[.rp [slD Qxc.enc [s0,s1],slD Qxd.enc rd],.agg (hwC x)]) (And.intro (VLe.rpL (And.intro (VLe.rows (by kernel_rfl) (Qub (by kernel_rfl) (by kernel_rfl))) (And.intro (VLe.refl _) trivial))) (And.intro (VLe.refl _) trivial)) (QcL h2)
@[reducible] def hwP:Nat × Blk:=(9005,.box 78 [.ref 9000 0 0])
noncomputable def QgO (s0 s1:Qxc) (x:Qxd):Option Bool:=bd (QeF s0 s1 x) fun b=>some (!b)
theorem Qq9 {s0 s1:Qxc} {rd:List Qxd} {x:Qxd} {r:Bool} (h:QgO s0 s1 x=some r):EffC Tryz.prog 64 [.agg (hwC x),.ref 9005 0 0] (hwP :: hwB 9000 9001 9002 9003 9004 s0 s1 rd) (.d (.bool r)) (hwP :: hwB 9000 9001 9002 9003 9004 s0 s1 rd):=by
  refine QS tOk (fn:=Tryz.f64) (c:=Ql Tryz.f64) rfl rfl ?_;unfold QgO at h;(conv=>whnf);obtain ⟨b,hb,h⟩:=Qa h;obtain rfl:=sj_ h;refine cC 0 (QkM (rd:=rd) hb) ?_;(conv=>whnf);exact lfE []
noncomputable def Qhq (s0 s1:Qxc) (rd:List Qxd):Option Int :=
 bd (lp (σ:=Int) (β:=Int ⊕ Unit) (fun s =>
(if (decide (s<((rd.length:Nat):Int)))=true then
 gd ((0:Int)≤s∧s<((rd.length:Nat):Int)) <|
 bd (QgO s0 s1 (rd.getD s.toNat default)) fun x6 =>
(if x6=true then
 some (.inr (.inl s))
else
 some (.inl (IntKind.i64.wrap (s+1))))
else
 some (.inr (.inr ())))) 0) fun x4 =>
(match x4 with
| .inl d7=>some d7
| .inr _=>some (-1))
theorem Qs5 {s0 s1:Qxc} {rd:List Qxd} {r:Int} (h:Qhq s0 s1 rd=some r):EffC Tryz.prog 100 [.osl 9002 0 rd.length,.fn 64 [.ref 9005 0 0]] (hwP :: hwB 9000 9001 9002 9003 9004 s0 s1 rd) (.d (.int .i64 r)) (hwP :: hwB 9000 9001 9002 9003 9004 s0 s1 rd):=by
  refine QS tOk (fn:=Tryz.f100) (c:=Ql Tryz.f100) rfl rfl ?_;unfold Qhq at h;(conv=>whnf);refine Qc tOk ?_;(conv=>whnf);obtain ⟨x4,hx4,h⟩:=Qa h;refine Zm tOk hx4 (fun s=>⟨0,Tryz.f100.ntmps,[(0,.osl 9002 0 rd.length),(1,.fn 64 [.ref 9005 0 0]),(7,.d (.int .i64 ((rd.length:Nat):Int))),(8,.d (.int .i64 s))],[],hwP :: hwB 9000 9001 9002 9003 9004 s0 s1 rd,[⟨QkC 0 (hwP :: hwB 9000 9001 9002 9003 9004 s0 s1 rd),[]⟩]⟩) ?_ ?_
  · exact leX []
  · clear hx4;intro s y g hy;(conv=>whnf);refine Qc tOk ?_;(conv=>whnf);refine QA g (fun _ g=>?_) (fun _ g=>?_)
    · (conv=>whnf);refine Qc tOk ?_;(conv=>whnf);refine gdI g (fun g=>?_);(conv=>whnf);obtain ⟨x6,hx6,g⟩:=Qa g;refine cE [] 0 (Qq9 (rd:=rd) hx6) ?_;(conv=>whnf);refine QA g (fun _ g=>?_) (fun _ g=>?_)
      · (conv=>whnf);obtain rfl:=sj_ g;obtain rfl:=hy _ rfl;obtain rfl:=sj_ h;exact lfE []
      · (conv=>whnf);obtain rfl:=sj_ g;exact ⟨_,rfl,leX []⟩
    · (conv=>whnf);obtain rfl:=sj_ g;obtain rfl:=hy _ rfl;obtain rfl:=sj_ h;exact lfE []
noncomputable def Qgc (s0 s1:Qxc) (rd:List Qxd):Option (List Qxd) :=
 bd (Qhq s0 s1 rd) fun x1 =>
(if (x1 == (-1))=true then
 some rd
else
 bd (lp (σ:=List Qxd × Int × Int) (β:=Nat × Int × List Qxd) (fun s2 =>
(if (decide (s2.2.2<((s2.1.length:Nat):Int)))=true then
 gd ((0:Int)≤s2.2.2∧s2.2.2<((s2.1.length:Nat):Int)) <|
 bd (QgO s0 s1 (s2.1.getD s2.2.2.toNat default)) fun x7 =>
(if (!x7)=true then
 gd ((0:Int)≤s2.2.1∧s2.2.1<((s2.1.length:Nat):Int)) <|
 bd (some (s2.1.set s2.2.1.toNat (s2.1.getD s2.2.2.toNat default))) fun x9 =>
 some (.inl (x9,IntKind.i64.wrap (s2.2.1+1),IntKind.i64.wrap (s2.2.2+1)))
else
 some (.inl (s2.1,s2.2.1,IntKind.i64.wrap (s2.2.2+1))))
else
 some (.inr (s2.1.length,s2.2.1,s2.1)))) (rd,x1,IntKind.i64.wrap (x1+1))) fun x5 =>
 gd ((0:Int)≤x5.2.1∧x5.2.1≤((x5.1:Nat):Int)∧((x5.1:Nat):Int)≤((x5.1:Nat):Int)) <|
 gd ((0:Int)≤(0:Int)∧(0:Int)≤x5.2.1∧x5.2.1≤((x5.1:Nat):Int)) <|
 some ((Qq8 x5.2.2 x5.2.1.toNat (Qdg ((x5.1:Nat):Int) x5.2.1)).take x5.2.1.toNat))
theorem QoT {s0 s1:Qxc} {rd r:List Qxd} (h:Qgc s0 s1 rd=some r):EffC Tryz.prog 63 [.osl 9002 0 rd.length,.fn 64 [.ref 9005 0 0]] (hwP :: hwB 9000 9001 9002 9003 9004 s0 s1 rd) (.osl 5002 0 r.length) [hwP,(9000,.box 26 [.osl 9001 0 2,.any]),(9001,hwS 9003 9004 s0 s1),(5002,hwR r),(9003,heA s0.End),(9004,heA s1.End)]:=by
  refine QS tOk (fn:=Tryz.f63) (c:=Ql Tryz.f63) rfl rfl ?_;unfold Qgc at h;(conv=>whnf);obtain ⟨x1,hx1,h⟩:=Qa h;refine cE [] 0 (Qs5 (rd:=rd) hx1) ?_;(conv=>whnf);refine Qc tOk ?_;(conv=>whnf);refine QA h (fun _ h=>?_) (fun _ h=>?_)
  · (conv=>whnf);obtain rfl:=sj_ h;exact lfE [.s [(5002,9002),(9002,5002)]]
  · (conv=>whnf);refine Qc tOk ?_;(conv=>whnf);obtain ⟨x5,hx5,h⟩:=Qa h;refine Zm tOk hx5 (fun s2=>⟨0,Tryz.f63.ntmps,[(0,.osl 9002 0 s2.1.length),(1,.fn 64 [.ref 9005 0 0]),(5,.d (.int .i64 s2.2.1)),(6,.d (.int .i64 s2.2.2))],[],hwP :: hwB 9000 9001 9002 9003 9004 s0 s1 s2.1,[⟨QkC 0 (hwP :: hwB 9000 9001 9002 9003 9004 s0 s1 rd),[]⟩]⟩) ?_ ?_
    · exact leX []
    · clear hx5;intro s2 y3 g4 hy3;(conv=>whnf);refine Qc tOk ?_;(conv=>whnf);refine QA g4 (fun _ g4=>?_) (fun _ g4=>?_)
      · (conv=>whnf);refine Qc tOk ?_;(conv=>whnf);refine gdI g4 (fun g4=>?_);(conv=>whnf);obtain ⟨x7,hx7,g4⟩:=Qa g4;refine cE [] 0 (Qq9 (rd:=s2.1) hx7) ?_;(conv=>whnf);refine QA g4 (fun _ g4=>?_) (fun _ g4=>?_)
        · (conv=>whnf);refine gdI g4 (fun g4=>?_);(conv=>whnf);obtain ⟨x9,hx9,hlx9,g4⟩:=QkL g4;refine QvO (enc:=Qxd.enc) hx9 ?_;(conv=>whnf);obtain rfl:=sj_ g4;exact ⟨_,rfl,leX []⟩
        · (conv=>whnf);obtain rfl:=sj_ g4;exact ⟨_,rfl,leX []⟩
      · (conv=>whnf);obtain rfl:=sj_ g4;obtain rfl:=hy3 _ rfl;dsimp only at h;obtain ⟨g11,h⟩:=Qi h;refine And.intro g11 ?_;(conv=>whnf);refine ⟨rows Qxd.enc (Qq8 (s2.1.length,s2.2.1,s2.1).2.2 (s2.1.length,s2.2.1,s2.1).2.1.toNat (Qdg (((s2.1.length,s2.2.1,s2.1).1:Nat):Int) (s2.1.length,s2.2.1,s2.1).2.1)),QoR QlF rfl,?_⟩;(conv=>whnf);obtain ⟨g12,h⟩:=Qi h;refine And.intro g12 ?_;(conv=>whnf);obtain rfl:=sj_ h;exact lfE [.c 4,.s [(5002,9002),(9002,5002)]]
@[reducible] def Qhr (e r:Qxb):Qxb:={ r with Name:=e.Name,Peer:=e.Peer,Keys:=e.Keys,Want:=e.Want,PeerBoot:=e.PeerBoot,PeerTurn:=e.PeerTurn }
noncomputable def QbQ (s0 s1:Qxc) (rd:List Qxd) (kind:Int) (want:List Qw8) (keys:List Qw7):Option (Qxc × Qxc × List Qxd) :=
(if ((kind == 1) && s0.Up)=true then
 bd (JI s0.End) fun x =>
(if x.2.1=true then
 bd (Qem rd x.1) fun y=>some (⟨s0.Up,Qhr s0.End x.2.2⟩,s1,y)
else
 some (⟨s0.Up,Qhr s0.End x.2.2⟩,s1,rd))
else
(if ((kind == 5) && s0.Up)=true then
 bd (Z0 s0.End) fun x=>some (⟨s0.Up,Qhr s0.End x⟩,s1,rd)
else
(if (kind == 6)=true then
 bd (Qb4 s0.End) fun x=>some (⟨false,x⟩,s1,rd)
else
(if ((kind == 7) && (!s0.Up))=true then
 bd (Q8 s0.End) fun x=>some (⟨true,Qhr s0.End x⟩,s1,rd)
else
 bd (gcall ((kind == 8)=true) (Zr want)) fun t =>
(if ((kind == 8) && t)=true then
 bd (QD want) fun x=>some (⟨s0.Up,{ s0.End with Want:=x }⟩,s1,rd)
else
 bd (gcall ((kind == 9)=true) (Z2 keys)) fun t2 =>
(if ((kind == 9) && t2)=true then
 bd (Qgc s0 s1 rd) fun y =>
 bd (Zo keys) fun x=>some (⟨s0.Up,{ s0.End with Keys:=x }⟩,s1,y)
else
 some (s0,s1,rd)))))))
theorem QfN {s0 s1:Qxc} {rd:List Qxd} {kind:Int} {want:List Qw8} {keys:List Qw7} {x0:Qxd} {r:Qxc × Qxc × List Qxd} (h:QbQ s0 s1 rd kind want keys=some r):EffC Tryz.prog 30 [.ref 9000 0 0,.agg (.d (.int .i64 kind) :: .d (.int .i64 0) :: .d (slD Qw8.enc want) :: .d (slD Qw7.enc keys) :: hwC x0)] (hwB 9000 9001 9002 9003 9004 s0 s1 rd) (.tup []) (hwB 9000 9001 5002 5003 5004 r.1 r.2.1 r.2.2):=by
  refine QS tOk (fn:=Tryz.f30) (c:=Ql Tryz.f30) rfl rfl ?_;unfold QbQ at h;have hx1:Qu 0 0 (IntKind.i64.wrap (((2:Nat):Int) - 1))=some true:=by kernel_rfl
  (conv=>whnf);refine Qc tOk ?_;(conv=>whnf);refine QV tOk [.u 8 0 (.d (.bool true)) []] 10 [] [0,1,0,4,12,28,60,124,255,511] [] ?_;(conv=>whnf);refine And.intro ⟨⟨Tryz.f49,rfl,by kernel_rfl,by kernel_rfl⟩,⟨_,rfl,Qx hx1⟩⟩ ?_;(conv=>whnf);refine And.intro (by kernel_rfl) ?_;(conv=>whnf);refine ⟨fun h0=>(by cases h0),fun _=>?_⟩;(conv=>whnf);refine QV tOk [] 7 [] [0,1,3,7,0,16,63] [127] ?_;(conv=>whnf);refine And.intro ⟨by decide,by decide⟩ ?_;(conv=>whnf);refine And.intro (by kernel_rfl) ?_;(conv=>whnf);refine QA h (fun _ h=>?_) (fun _ h=>?_)
  · (conv=>whnf);obtain ⟨x,hx,h⟩:=Qa h;refine cE [(9002,9001),(9001,9003),(9003,9004),(5001,6003)] 0 (Qua 9002 2000038 [.d (.bool s0.Up)] (hsC s1 (.osl 9003 0 s1.End.Heard.length)) [(9003,heA s1.End)] (Qd4 hx)) ?_;(conv=>whnf);refine QA h (fun _ h=>?_) (fun _ h=>?_)
    · (conv=>whnf);obtain ⟨y,hy,h⟩:=Qa h;obtain rfl:=sj_ h;refine cE [(9003,6003),(9004,9004),(5002,6002)] 0 (Qi2 (s0:=⟨s0.Up,Qhr s0.End x.2.2⟩) (s1:=s1) hy) ?_;(conv=>whnf);exact lfE [.s [(6003,5003),(5003,6003),(9004,5004),(5004,9004),(6002,5002),(5002,6002)]]
    · (conv=>whnf);obtain rfl:=sj_ h;exact lfE [.s [(6003,5003),(5003,6003),(9004,5004),(5004,9004),(9002,5002),(5002,9002)]]
  · (conv=>whnf);refine QA h (fun _ h=>?_) (fun _ h=>?_)
    · (conv=>whnf);obtain ⟨x,hx,h⟩:=Qa h;obtain rfl:=sj_ h;refine cE [(9002,9001),(9001,9003),(9003,9004),(5001,6003)] 0 (Qua 9002 2000038 [.d (.bool s0.Up)] (hsC s1 (.osl 9003 0 s1.End.Heard.length)) [(9003,heA s1.End)] (QdH hx)) ?_;(conv=>whnf);exact lfE [.s [(6003,5003),(5003,6003),(9004,5004),(5004,9004),(9002,5002),(5002,9002)]]
    · (conv=>whnf);refine QA h (fun _ h=>?_) (fun _ h=>?_)
      · (conv=>whnf);obtain ⟨x,hx,h⟩:=Qa h;obtain rfl:=sj_ h;refine cC 6000 (Qho hx) ?_;(conv=>whnf);exact lfE [.f [11001,11002,11003],.s [(11004,5003),(5003,11004),(9004,5004),(5004,9004),(9002,5002),(5002,9002)]]
      · (conv=>whnf);refine QA h (fun _ h=>?_) (fun _ h=>?_)
        · (conv=>whnf);obtain ⟨x,hx,h⟩:=Qa h;obtain rfl:=sj_ h;refine cE [(9002,9001),(9001,9003),(9003,9004),(5001,6003)] 0 (Qua 9002 2000038 [.d (.bool true)] (hsC s1 (.osl 9003 0 s1.End.Heard.length)) [(9003,heA s1.End)] (J3 hx)) ?_;(conv=>whnf);exact lfE [.s [(6003,5003),(5003,6003),(9004,5004),(5004,9004),(9002,5002),(5002,9002)]]
        · (conv=>whnf);obtain ⟨t,ht,h⟩:=Qa h;refine cG (fun c0=>Qar (Qf ht c0)) ?_;(conv=>whnf);refine QA h (fun _ h=>?_) (fun _ h=>?_)
          · (conv=>whnf);obtain ⟨x,hx,h⟩:=Qa h;obtain rfl:=sj_ h;refine cC 6000 (Zs hx) ?_;(conv=>whnf);exact lfE [.f [11001],.s [(9003,5003),(5003,9003),(9004,5004),(5004,9004),(9002,5002),(5002,9002)]]
          · (conv=>whnf);obtain ⟨t2,ht2,h⟩:=Qa h;refine cG (fun c0=>QbC (Qf ht2 c0)) ?_;(conv=>whnf);refine QA h (fun _ h=>?_) (fun _ h=>?_)
            · (conv=>whnf);obtain ⟨y,hy,h⟩:=Qa h;obtain ⟨x,hx,h⟩:=Qa h;obtain rfl:=sj_ h;refine QaS tOk [.l 0 [(2,.box 78 [.ref 9000 0 0])] (.ref 9000 0 0),.l 1 [(2,.box 78 [.ref 9000 0 0])] (.ref 9000 0 0),.l 4 [(9000,.box 26 [.osl 9001 0 2,.osl 9002 0 rd.length])] (.osl 9002 0 rd.length),.x 6 [(2,.box 78 [.ref 9000 0 0]),(9000,.box 26 [.osl 9001 0 2,.osl 9002 0 rd.length]),(9001,hwS 9003 9004 s0 s1),(9002,hwR rd),(9003,heA s0.End),(9004,heA s1.End)] (.osl 6002 0 y.length) [] [(6002,hwR y),(2,.box 78 [.ref 9000 0 0]),(9000,.box 26 [.osl 9001 0 2,.any]),(9001,hwS 9003 9004 s0 s1),(9003,heA s0.End),(9004,heA s1.End)] [2]] 7 [] [0,0,2,6,14,0,62] [127,255,511] [2,9000,9001,9002,9003,9004] ?_;(conv=>whnf);refine And.intro (by (conv=>whnf); exact ⟨by kernel_rfl,by kernel_rfl⟩) ?_;(conv=>whnf);refine And.intro (by (conv=>whnf); exact ⟨by kernel_rfl,by kernel_rfl⟩) ?_;(conv=>whnf);refine And.intro (by (conv=>whnf); exact ⟨by kernel_rfl,by kernel_rfl⟩) ?_;(conv=>whnf);refine And.intro (eH [(9005,2),(5002,6002)] 0 (QoT hy)) ?_;(conv=>whnf);refine And.intro (by kernel_rfl) ?_;(conv=>whnf);refine cC 6000 (QaG hx) ?_;(conv=>whnf);exact lfE [.f [11001],.s [(9003,5003),(5003,9003),(9004,5004),(5004,9004),(6002,5002),(5002,6002)]]
            · (conv=>whnf);obtain rfl:=sj_ h;exact lfE [.s [(9003,5003),(5003,9003),(9004,5004),(5004,9004),(9002,5002),(5002,9002)]]
noncomputable def QbR (s0 s1:Qxc) (rd:List Qxd) (kind:Int) (want:List Qw8) (keys:List Qw7):Option (Qxc × Qxc × List Qxd) :=
(if ((kind == 1) && s1.Up)=true then
 bd (JI s1.End) fun x =>
(if x.2.1=true then
 bd (Qem rd x.1) fun y=>some (s0,⟨s1.Up,Qhr s1.End x.2.2⟩,y)
else
 some (s0,⟨s1.Up,Qhr s1.End x.2.2⟩,rd))
else
(if ((kind == 5) && s1.Up)=true then
 bd (Z0 s1.End) fun x=>some (s0,⟨s1.Up,Qhr s1.End x⟩,rd)
else
(if (kind == 6)=true then
 bd (Qb4 s1.End) fun x=>some (s0,⟨false,x⟩,rd)
else
(if ((kind == 7) && (!s1.Up))=true then
 bd (Q8 s1.End) fun x=>some (s0,⟨true,Qhr s1.End x⟩,rd)
else
 bd (gcall ((kind == 8)=true) (Zr want)) fun t =>
(if ((kind == 8) && t)=true then
 bd (QD want) fun x=>some (s0,⟨s1.Up,{ s1.End with Want:=x }⟩,rd)
else
 bd (gcall ((kind == 9)=true) (Z2 keys)) fun t2 =>
(if ((kind == 9) && t2)=true then
 bd (Qgc s0 s1 rd) fun y =>
 bd (Zo keys) fun x=>some (s0,⟨s1.Up,{ s1.End with Keys:=x }⟩,y)
else
 some (s0,s1,rd)))))))
theorem QfO {s0 s1:Qxc} {rd:List Qxd} {kind:Int} {want:List Qw8} {keys:List Qw7} {x0:Qxd} {r:Qxc × Qxc × List Qxd} (h:QbR s0 s1 rd kind want keys=some r):EffC Tryz.prog 30 [.ref 9000 0 0,.agg (.d (.int .i64 kind) :: .d (.int .i64 1) :: .d (slD Qw8.enc want) :: .d (slD Qw7.enc keys) :: hwC x0)] (hwB 9000 9001 9002 9003 9004 s0 s1 rd) (.tup []) (hwB 9000 9001 5002 5003 5004 r.1 r.2.1 r.2.2):=by
  refine QS tOk (fn:=Tryz.f30) (c:=Ql Tryz.f30) rfl rfl ?_;unfold QbR at h;have hx1:Qu 1 0 (IntKind.i64.wrap (((2:Nat):Int) - 1))=some true:=by kernel_rfl
  (conv=>whnf);refine Qc tOk ?_;(conv=>whnf);refine QV tOk [.u 8 0 (.d (.bool true)) []] 10 [] [0,1,0,4,12,28,60,124,255,511] [] ?_;(conv=>whnf);refine And.intro ⟨⟨Tryz.f49,rfl,by kernel_rfl,by kernel_rfl⟩,⟨_,rfl,Qx hx1⟩⟩ ?_;(conv=>whnf);refine And.intro (by kernel_rfl) ?_;(conv=>whnf);refine ⟨fun h0=>(by cases h0),fun _=>?_⟩;(conv=>whnf);refine QV tOk [] 7 [] [0,1,3,7,0,16,63] [127] ?_;(conv=>whnf);refine And.intro ⟨by decide,by decide⟩ ?_;(conv=>whnf);refine And.intro (by kernel_rfl) ?_;(conv=>whnf);refine QA h (fun _ h=>?_) (fun _ h=>?_)
  · (conv=>whnf);obtain ⟨x,hx,h⟩:=Qa h;refine cE [(9002,9001),(9001,9004),(9003,9003),(5001,6003)] 0 (Qua 9002 2000038 (hsC s0 (.osl 9003 0 s0.End.Heard.length) ++ [.d (.bool s1.Up)]) [] [(9003,heA s0.End)] (Qd4 hx)) ?_;(conv=>whnf);refine QA h (fun _ h=>?_) (fun _ h=>?_)
    · (conv=>whnf);obtain ⟨y,hy,h⟩:=Qa h;obtain rfl:=sj_ h;refine cE [(9003,9003),(9004,6003),(5002,6002)] 0 (Qi2 (s0:=s0) (s1:=⟨s1.Up,Qhr s1.End x.2.2⟩) hy) ?_;(conv=>whnf);exact lfE [.s [(6003,5004),(5004,6003),(9003,5003),(5003,9003),(6002,5002),(5002,6002)]]
    · (conv=>whnf);obtain rfl:=sj_ h;exact lfE [.s [(6003,5004),(5004,6003),(9003,5003),(5003,9003),(9002,5002),(5002,9002)]]
  · (conv=>whnf);refine QA h (fun _ h=>?_) (fun _ h=>?_)
    · (conv=>whnf);obtain ⟨x,hx,h⟩:=Qa h;obtain rfl:=sj_ h;refine cE [(9002,9001),(9001,9004),(9003,9003),(5001,6003)] 0 (Qua 9002 2000038 (hsC s0 (.osl 9003 0 s0.End.Heard.length) ++ [.d (.bool s1.Up)]) [] [(9003,heA s0.End)] (QdH hx)) ?_;(conv=>whnf);exact lfE [.s [(6003,5004),(5004,6003),(9003,5003),(5003,9003),(9002,5002),(5002,9002)]]
    · (conv=>whnf);refine QA h (fun _ h=>?_) (fun _ h=>?_)
      · (conv=>whnf);obtain ⟨x,hx,h⟩:=Qa h;obtain rfl:=sj_ h;refine cC 6000 (Qho hx) ?_;(conv=>whnf);exact lfE [.f [11001,11002,11003],.s [(11004,5004),(5004,11004),(9003,5003),(5003,9003),(9002,5002),(5002,9002)]]
      · (conv=>whnf);refine QA h (fun _ h=>?_) (fun _ h=>?_)
        · (conv=>whnf);obtain ⟨x,hx,h⟩:=Qa h;obtain rfl:=sj_ h;refine cE [(9002,9001),(9001,9004),(9003,9003),(5001,6003)] 0 (Qua 9002 2000038 (hsC s0 (.osl 9003 0 s0.End.Heard.length) ++ [.d (.bool true)]) [] [(9003,heA s0.End)] (J3 hx)) ?_;(conv=>whnf);exact lfE [.s [(6003,5004),(5004,6003),(9003,5003),(5003,9003),(9002,5002),(5002,9002)]]
        · (conv=>whnf);obtain ⟨t,ht,h⟩:=Qa h;refine cG (fun c0=>Qar (Qf ht c0)) ?_;(conv=>whnf);refine QA h (fun _ h=>?_) (fun _ h=>?_)
          · (conv=>whnf);obtain ⟨x,hx,h⟩:=Qa h;obtain rfl:=sj_ h;refine cC 6000 (Zs hx) ?_;(conv=>whnf);exact lfE [.f [11001],.s [(9004,5004),(5004,9004),(9003,5003),(5003,9003),(9002,5002),(5002,9002)]]
          · (conv=>whnf);obtain ⟨t2,ht2,h⟩:=Qa h;refine cG (fun c0=>QbC (Qf ht2 c0)) ?_;(conv=>whnf);refine QA h (fun _ h=>?_) (fun _ h=>?_)
            · (conv=>whnf);obtain ⟨y,hy,h⟩:=Qa h;obtain ⟨x,hx,h⟩:=Qa h;obtain rfl:=sj_ h;refine QaS tOk [.l 0 [(2,.box 78 [.ref 9000 0 0])] (.ref 9000 0 0),.l 1 [(2,.box 78 [.ref 9000 0 0])] (.ref 9000 0 0),.l 4 [(9000,.box 26 [.osl 9001 0 2,.osl 9002 0 rd.length])] (.osl 9002 0 rd.length),.x 6 [(2,.box 78 [.ref 9000 0 0]),(9000,.box 26 [.osl 9001 0 2,.osl 9002 0 rd.length]),(9001,hwS 9003 9004 s0 s1),(9002,hwR rd),(9003,heA s0.End),(9004,heA s1.End)] (.osl 6002 0 y.length) [] [(6002,hwR y),(2,.box 78 [.ref 9000 0 0]),(9000,.box 26 [.osl 9001 0 2,.any]),(9001,hwS 9003 9004 s0 s1),(9003,heA s0.End),(9004,heA s1.End)] [2]] 7 [] [0,0,2,6,14,0,62] [127,255,511] [2,9000,9001,9002,9003,9004] ?_;(conv=>whnf);refine And.intro (by (conv=>whnf); exact ⟨by kernel_rfl,by kernel_rfl⟩) ?_;(conv=>whnf);refine And.intro (by (conv=>whnf); exact ⟨by kernel_rfl,by kernel_rfl⟩) ?_;(conv=>whnf);refine And.intro (by (conv=>whnf); exact ⟨by kernel_rfl,by kernel_rfl⟩) ?_;(conv=>whnf);refine And.intro (eH [(9005,2),(5002,6002)] 0 (QoT hy)) ?_;(conv=>whnf);refine And.intro (by kernel_rfl) ?_;(conv=>whnf);refine cC 6000 (QaG hx) ?_;(conv=>whnf);exact lfE [.f [11001],.s [(9004,5004),(5004,9004),(9003,5003),(5003,9003),(6002,5002),(5002,6002)]]
            · (conv=>whnf);obtain rfl:=sj_ h;exact lfE [.s [(9004,5004),(5004,9004),(9003,5003),(5003,9003),(9002,5002),(5002,9002)]]
theorem QmL {s0 s1:Qxc} {rd:List Qxd} {kind at_:Int} {want:List Qw8} {keys:List Qw7} {x0:Qxd} (hx1:Qu at_ 0 (IntKind.i64.wrap (((2:Nat):Int) - 1))=some false):EffC Tryz.prog 30 [.ref 9000 0 0,.agg (.d (.int .i64 kind) :: .d (.int .i64 at_) :: .d (slD Qw8.enc want) :: .d (slD Qw7.enc keys) :: hwC x0)] (hwB 9000 9001 9002 9003 9004 s0 s1 rd) (.tup []) (hwB 9000 9001 9002 9003 9004 s0 s1 rd):=by
  refine QS tOk (fn:=Tryz.f30) (c:=Ql Tryz.f30) rfl rfl ?_;(conv=>whnf);refine Qc tOk ?_;(conv=>whnf);refine QV tOk [.u 8 0 (.d (.bool false)) []] 10 [] [0,1,0,4,12,28,60,124,255,511] [] ?_;(conv=>whnf);refine And.intro ⟨⟨Tryz.f49,rfl,by kernel_rfl,by kernel_rfl⟩,⟨_,rfl,Qx hx1⟩⟩ ?_;(conv=>whnf);refine And.intro (by kernel_rfl) ?_;(conv=>whnf);refine ⟨fun _=>?_,fun h0=>by cases h0⟩;(conv=>whnf);exact lfE []
noncomputable def Qd5 (p q:Qxc) (rd:List Qxd) (kind at_:Int) (want:List Qw8) (keys:List Qw7) (word:Qxd):Option (Qxc × Qxc × List Qxd) :=
 bd (QeD p q rd) fun c =>
(if (kind == 2)=true then
 Qa9 c.1 c.2.1 c.2.2 kind at_
else
(if (kind == 3)=true then
 Qa9 c.1 c.2.1 c.2.2 kind at_
else
(if (kind == 4)=true then
 Qa9 c.1 c.2.1 c.2.2 kind at_
else
(if (kind == 10)=true then
 bd (Jq word) fun b =>
 bd (gcall (b=true) (QeF c.1 c.2.1 word)) fun b2 =>
(if (b && (!b2))=true then
 bd (Qem c.2.2 word) fun y=>some (c.1,c.2.1,y)
else
 some c)
else
(if (at_ == 0)=true then
 QbQ c.1 c.2.1 c.2.2 kind want keys
else
(if (at_ == 1)=true then
 QbR c.1 c.2.1 c.2.2 kind want keys
else
 bd (Qu at_ 0 (IntKind.i64.wrap (((2:Nat):Int) - 1))) fun b =>
(if b=true then none else some c)))))))
theorem Qra {p q:Qxc} {rd:List Qxd} {kind at_:Int} {want:List Qw8} {keys:List Qw7} {word:Qxd} {r:Qxc × Qxc × List Qxd} (h0:Zt ⟨[p,q],rd⟩=some true) (h:Qd5 p q rd kind at_ want keys word=some r):EffC Tryz.prog 9 [.agg [.d (slD Qxc.enc [p,q]),.d (slD Qxd.enc rd)],.agg (.d (.int .i64 kind) :: .d (.int .i64 at_) :: .d (slD Qw8.enc want) :: .d (slD Qw7.enc keys) :: hwC word)] [] (.agg [.d (slD Qxc.enc [r.1,r.2.1]),.d (slD Qxd.enc r.2.2)]) []:=by
  refine QS tOk (fn:=Tryz.f9) (c:=Ql Tryz.f9) rfl rfl ?_;unfold Qd5 at h;(conv=>whnf);refine Qc tOk ?_;(conv=>whnf);refine cC 0 (Qa8 h0) ?_;(conv=>whnf);refine ⟨fun h0=>(by cases h0),fun _=>?_⟩;(conv=>whnf);obtain ⟨c,hc,h⟩:=Qa h;refine cE [(5001,6001),(5002,6002),(5003,6003),(5004,6004)] 0 (QmJ hc) ?_;(conv=>whnf);refine Qc tOk ?_;(conv=>whnf);refine Qc tOk ?_;(conv=>whnf);refine QA h (fun hk h=>?_) (fun hk h=>?_)
  · (conv=>whnf);refine ⟨fun _=>?_,fun h1=>by rw [hk] at h1; cases h1⟩;(conv=>whnf);refine cE [(9000,5),(9001,6001),(9002,6002),(9003,6003),(9004,6004),(5002,7002),(5003,7003),(5004,7004)] 0 (Qe2 h) ?_;(conv=>whnf);exact lfE [.f [7003,7004,7002,6001]]
  · (conv=>whnf);refine QA h (fun hk h=>?_) (fun hk h=>?_)
    · (conv=>whnf);refine ⟨fun _=>?_,fun h1=>by rw [hk] at h1; cases h1⟩;(conv=>whnf);refine cE [(9000,5),(9001,6001),(9002,6002),(9003,6003),(9004,6004),(5002,7002),(5003,7003),(5004,7004)] 0 (Qe2 h) ?_;(conv=>whnf);exact lfE [.f [7003,7004,7002,6001]]
    · (conv=>whnf);refine spI h (fun hk h=>?_) (fun hk h=>?_)
      · refine ⟨fun _=>?_,fun h1=>by rw [hk] at h1; cases h1⟩;(conv=>whnf);refine cE [(9000,5),(9001,6001),(9002,6002),(9003,6003),(9004,6004),(5002,7002),(5003,7003),(5004,7004)] 0 (Qe2 h) ?_;(conv=>whnf);exact lfE [.f [7003,7004,7002,6001]]
      · refine ⟨fun h1=>(by rw [hk] at h1; cases h1),fun _=>?_⟩;(conv=>whnf);refine QA h (fun hk2 h=>?_) (fun hk2 h=>?_)
        · (conv=>whnf);obtain ⟨b,hb,h⟩:=Qa h;refine cC 0 (QcJ hb) ?_;(conv=>whnf);obtain ⟨b2,hb2,h⟩:=Qa h;refine cG (fun c0=>QkM (rd:=c.2.2) (Qf hb2 c0)) ?_;(conv=>whnf);refine QA h (fun _ h=>?_) (fun _ h=>?_)
          · (conv=>whnf);obtain ⟨y,hy,h⟩:=Qa h;obtain rfl:=sj_ h;refine cE [(9000,5),(9001,6001),(9002,6002),(9003,6003),(9004,6004),(5002,7002)] 0 (Qi2 (s0:=c.1) (s1:=c.2.1) hy) ?_;(conv=>whnf);exact lfE [.f [6003,6004,7002,6001]]
          · (conv=>whnf);obtain rfl:=sj_ h;exact lfE [.f [6003,6004,6002,6001]]
        · (conv=>whnf);refine spI h (fun hz h=>?_) (fun hz h=>?_)
          · obtain rfl:at_=0:=by simpa using hz
            refine cE [(9000,5),(9001,6001),(9002,6002),(9003,6003),(9004,6004),(5002,7002),(5003,7003),(5004,7004)] 0 (QfN h) ?_;(conv=>whnf);exact lfE [.f [7003,7004,7002,6001]]
          · refine spI h (fun hz h=>?_) (fun hz h=>?_)
            · obtain rfl:at_=1:=by simpa using hz
              refine cE [(9000,5),(9001,6001),(9002,6002),(9003,6003),(9004,6004),(5002,7002),(5003,7003),(5004,7004)] 0 (QfO h) ?_;(conv=>whnf);exact lfE [.f [7003,7004,7002,6001]]
            · obtain ⟨b,hb,h⟩:=Qa h;refine spI h (fun hz h=>by cases h) (fun hz h=>?_);obtain rfl:=sj_ h;subst hz;refine cE [(9000,5),(9001,6001),(9002,6002),(9003,6003),(9004,6004)] 0 (QmL hb) ?_;(conv=>whnf);exact lfE [.f [6003,6004,6002,6001]]
@[reducible] def Qs6 (n:Int):Int:=(if 100<(if 0 > n then 0 else n) then 100 else (if 0 > n then 0 else n))
@[reducible] def Qs7:Qxd:=⟨0,0,0,0,0,0,0,0,⟨0,⟨0,0,0,0⟩⟩,0⟩
noncomputable def Qgd (s:Qxc × Qxc × List Qxd):Option (Qxc × Qxc × List Qxd) :=
 bd (Qb5 s.1 s.2.1 s.2.2) fun a =>
 bd (QbQ a.1 a.2.1 a.2.2 1 [] []) fun b =>
 bd (QbR b.1 b.2.1 b.2.2 1 [] []) fun c =>
 bd (Qb5 c.1 c.2.1 c.2.2) fun d =>
 bd (QbQ d.1 d.2.1 d.2.2 5 [] []) fun e =>
 QbR e.1 e.2.1 e.2.2 5 [] []
noncomputable def Qd6 (p q:Qxc) (rd:List Qxd) (n:Int):Option (Qxc × Qxc × List Qxd) :=
 bd (QeD p q rd) fun c =>
 lp (σ:=(Qxc × Qxc × List Qxd) × Int) (β:=Qxc × Qxc × List Qxd) (fun s =>
(if (decide (s.2<Qs6 n))=true then
 bd (Qgd s.1) fun y=>some (.inl (y,IntKind.i64.wrap (s.2+1)))
else
 some (.inr s.1))) (c,0)
theorem Qrb {p q:Qxc} {rd:List Qxd} {n:Int} {r:Qxc × Qxc × List Qxd} (h0:Zt ⟨[p,q],rd⟩=some true) (h:Qd6 p q rd n=some r):EffC Tryz.prog 10 [.agg [.d (slD Qxc.enc [p,q]),.d (slD Qxd.enc rd)],.d (.int .i64 n)] [] (.agg [.d (slD Qxc.enc [r.1,r.2.1]),.d (slD Qxd.enc r.2.2)]) []:=by
  refine QS tOk (fn:=Tryz.f10) (c:=Ql Tryz.f10) rfl rfl ?_;unfold Qd6 at h;(conv=>whnf);refine Qc tOk ?_;(conv=>whnf);refine cC 0 (Qa8 h0) ?_;(conv=>whnf);refine ⟨fun h0=>(by cases h0),fun _=>?_⟩;(conv=>whnf);obtain ⟨c,hc,h⟩:=Qa h;refine cE [(5001,6001),(5002,6002),(5003,6003),(5004,6004)] 0 (QmJ hc) ?_;(conv=>whnf);refine Qc tOk ?_;(conv=>whnf);refine Zm tOk h (fun s=>⟨0,Tryz.f10.ntmps,[(4,.ref 4 0 0),(5,.ref 5 0 0),(16,.d (.int .i64 (Qs6 n))),(17,.d (.int .i64 s.2))],[],(4,.box 26 [.d .nil,.d .nil]) :: hwB 5 6001 6002 6003 6004 s.1.1 s.1.2.1 s.1.2.2,[⟨[],[]⟩]⟩) ?_ ?_
  · exact leX []
  · clear h;intro s y g hy;(conv=>whnf);refine Qc tOk ?_;(conv=>whnf);refine QA g (fun _ g=>?_) (fun _ g=>?_)
    · (conv=>whnf);obtain ⟨z,hz,g⟩:=Qa g;obtain rfl:=sj_ g;unfold Qgd at hz;obtain ⟨a1,ha1,hz⟩:=Qa hz;obtain ⟨a2,ha2,hz⟩:=Qa hz;obtain ⟨a3,ha3,hz⟩:=Qa hz;obtain ⟨a4,ha4,hz⟩:=Qa hz;obtain ⟨a5,ha5,hz⟩:=Qa hz;refine Qc tOk ?_;(conv=>whnf);refine cE [(9000,5),(9001,6001),(9002,6002),(9003,6003),(9004,6004),(5002,7002),(5003,7003),(5004,7004)] 0 (Qhp ha1) ?_;(conv=>whnf);refine Qc tOk ?_;(conv=>whnf);refine QoS tOk 3 ?_;(conv=>whnf);refine Qc tOk ?_;(conv=>whnf);refine ⟨fun _=>?_,fun h0=>by cases h0⟩;(conv=>whnf);refine Qc tOk ?_;(conv=>whnf);refine cE [(9000,5),(9001,6001),(9002,7002),(9003,7003),(9004,7004),(5002,8002),(5003,8003),(5004,8004)] 0 (QfN (x0:=Qs7) ha2) ?_;(conv=>whnf);refine Qc tOk ?_;(conv=>whnf);refine ⟨fun _=>?_,fun h0=>by cases h0⟩;(conv=>whnf);refine Qc tOk ?_;(conv=>whnf);refine cE [(9000,5),(9001,6001),(9002,8002),(9003,8003),(9004,8004),(5002,9002),(5003,9003),(5004,9004)] 0 (QfO (x0:=Qs7) ha3) ?_;(conv=>whnf);refine Qc tOk ?_;(conv=>whnf);refine ⟨fun h0=>(by cases h0),fun _=>?_⟩;(conv=>whnf);refine cE [(9000,5),(9001,6001),(9002,9002),(9003,9003),(9004,9004),(5002,10002),(5003,10003),(5004,10004)] 0 (Qhp ha4) ?_;(conv=>whnf);refine QoS tOk 3 ?_;(conv=>whnf);refine Qc tOk ?_;(conv=>whnf);refine ⟨fun _=>?_,fun h0=>by cases h0⟩;(conv=>whnf);refine Qc tOk ?_;(conv=>whnf);refine cE [(9000,5),(9001,6001),(9002,10002),(9003,10003),(9004,10004),(5002,11002),(5003,11003),(5004,11004)] 0 (QfN (x0:=Qs7) ha5) ?_;(conv=>whnf);refine Qc tOk ?_;(conv=>whnf);refine ⟨fun _=>?_,fun h0=>by cases h0⟩;(conv=>whnf);refine Qc tOk ?_;(conv=>whnf);refine cE [(9000,5),(9001,6001),(9002,11002),(9003,11003),(9004,11004),(5002,12002),(5003,12003),(5004,12004)] 0 (QfO (x0:=Qs7) hz) ?_;(conv=>whnf);refine Qc tOk ?_;(conv=>whnf);refine ⟨fun h0=>(by cases h0),fun _=>?_⟩;(conv=>whnf);exact ⟨_,rfl,leX [.s [(12002,6002),(6002,12002),(12003,6003),(6003,12003),(12004,6004),(6004,12004)]]⟩
    · (conv=>whnf);obtain rfl:=sj_ g;obtain rfl:=hy _ rfl;exact lfE [.f [6003,6004,6002,6001]]
noncomputable def Qc9 (a0:Qxe) (n:Int):Option Qxe :=
 bd (Zt a0) fun b =>
(if (!b)=true then
 some (⟨[],[]⟩:Qxe)
else
(match a0 with
| ⟨[p,q],rd⟩=>bd (Qd6 p q rd n) fun z=>some (⟨[z.1,z.2.1],z.2.2⟩:Qxe)
| _=>none))
theorem QkD {a0 r:Qxe} {n:Int} (h:Qc9 a0 n=some r):EffC Tryz.prog 10 [.agg [.d (slD Qxc.enc a0.Sides),.d (slD Qxd.enc a0.Radio)],.d (.int .i64 n)] [] (.agg [.d (slD Qxc.enc r.Sides),.d (slD Qxd.enc r.Radio)]) []:=by
  unfold Qc9 at h;obtain ⟨b,hb,h⟩:=Qa h;cases b with
  | false =>
    obtain rfl:=sj_ h;refine QS tOk (fn:=Tryz.f10) (c:=Ql Tryz.f10) rfl rfl ?_;(conv=>whnf);refine Qc tOk ?_;(conv=>whnf);refine cC 0 (Qa8 hb) ?_;(conv=>whnf);refine ⟨fun _=>?_,fun h0=>by cases h0⟩;(conv=>whnf);exact lfE []
  | true =>
    obtain ⟨sides,rd⟩:=a0;cases sides with
    | nil=>cases h
    | cons p l=>cases l with
      | nil=>cases h
      | cons q l=>cases l with
        | cons _ _=>cases h
        | nil =>
          obtain ⟨z,hz,h⟩:=Qa (show bd (Qd6 p q rd n) (fun z=>some (⟨[z.1,z.2.1],z.2.2⟩:Qxe))=some r from h);obtain rfl:=sj_ h;exact Qrb hb hz
noncomputable def Qda (a0:Qxe) (kind at_:Int) (want:List Qw8) (keys:List Qw7) (word:Qxd):Option Qxe :=
 bd (Zt a0) fun b =>
(if (!b)=true then
 some (⟨[],[]⟩:Qxe)
else
(match a0 with
| ⟨[p,q],rd⟩=>bd (Qd5 p q rd kind at_ want keys word) fun z=>some (⟨[z.1,z.2.1],z.2.2⟩:Qxe)
| _=>none))
theorem QkE {a0 r:Qxe} {kind at_:Int} {want:List Qw8} {keys:List Qw7} {word:Qxd} (h:Qda a0 kind at_ want keys word=some r):EffC Tryz.prog 9 [.agg [.d (slD Qxc.enc a0.Sides),.d (slD Qxd.enc a0.Radio)],.agg (.d (.int .i64 kind) :: .d (.int .i64 at_) :: .d (slD Qw8.enc want) :: .d (slD Qw7.enc keys) :: hwC word)] [] (.agg [.d (slD Qxc.enc r.Sides),.d (slD Qxd.enc r.Radio)]) []:=by
  unfold Qda at h;obtain ⟨b,hb,h⟩:=Qa h;cases b with
  | false =>
    obtain rfl:=sj_ h;refine QS tOk (fn:=Tryz.f9) (c:=Ql Tryz.f9) rfl rfl ?_;(conv=>whnf);refine Qc tOk ?_;(conv=>whnf);refine cC 0 (Qa8 hb) ?_;(conv=>whnf);refine ⟨fun _=>?_,fun h0=>by cases h0⟩;(conv=>whnf);exact lfE []
  | true =>
    obtain ⟨sides,rd⟩:=a0;cases sides with
    | nil=>cases h
    | cons p l=>cases l with
      | nil=>cases h
      | cons q l=>cases l with
        | cons _ _=>cases h
        | nil =>
          obtain ⟨z,hz,h⟩:=Qa (show bd (Qd5 p q rd kind at_ want keys word) (fun z=>some (⟨[z.1,z.2.1],z.2.2⟩:Qxe))=some r from h);obtain rfl:=sj_ h;exact Qra hb hz
noncomputable def J7 (a0:Qxe) (a1:Qxf):Option (Qxe) :=
 Qda a0 a1.Kind a1.At a1.Want a1.Keys a1.Word
theorem QdA {a0:Qxe} {a1:Qxf} {r:Qxe} (h:J7 a0 a1=some r):EffC Tryz.prog 9 [.agg [.d (slD Qxc.enc a0.Sides),.d (slD Qxd.enc a0.Radio)],.agg (dI a1.Kind :: dI a1.At :: .d (slD Qw8.enc a1.Want) :: .d (slD Qw7.enc a1.Keys) :: hwC a1.Word)] [] (.agg [.d (slD Qxc.enc r.Sides),.d (slD Qxd.enc r.Radio)]) []:=by
  unfold J7 at h;exact QkE h
noncomputable def Qbv (a0:Qxe) (a1:(List Qw7)):Option (Qxe) :=
 bd (lp (σ:=List Qxc × List Qxd × Int) (β:=((List Qxc) × (List Qxd))) (fun s1 =>
(if (decide (s1.2.2<2))=true then
 bd (J7 (⟨s1.1,s1.2.1⟩:Qxe) (⟨7,s1.2.2,[],[],(⟨0,0,0,0,0,0,0,0,(⟨0,(⟨0,0,0,0⟩:Qw8)⟩:Qw9),0⟩:Qxd)⟩:Qxf)) fun x5 =>
 bd (J7 x5 (⟨9,s1.2.2,[],a1,(⟨0,0,0,0,0,0,0,0,(⟨0,(⟨0,0,0,0⟩:Qw8)⟩:Qw9),0⟩:Qxd)⟩:Qxf)) fun x6 =>
 some (.inl (x6.Sides,x6.Radio,IntKind.i64.wrap (s1.2.2+1)))
else
 some (.inr (s1.1,s1.2.1)))) (a0.Sides,a0.Radio,0)) fun x4 =>
 some (⟨x4.1,x4.2⟩:Qxe)
theorem QgA {a0:Qxe} {a1:(List Qw7)} {r:Qxe} (h:Qbv a0 a1=some r):EffC Tryz.prog 8 [.agg [.d (slD Qxc.enc a0.Sides),.d (slD Qxd.enc a0.Radio)],.d (slD Qw7.enc a1)] [] (.agg [.d (slD Qxc.enc r.Sides),.d (slD Qxd.enc r.Radio)]) []:=by
  refine QS tOk (fn:=Tryz.f8) (c:=Ql Tryz.f8) rfl rfl ?_;unfold Qbv at h;(conv=>whnf);refine Qc tOk ?_;(conv=>whnf);obtain ⟨x4,hx4,h⟩:=Qa h;refine Zm tOk hx4 (fun s1=>⟨0,20,[(1,.d (slD Qw7.enc a1)),(2,.ref 2 0 0),(4,.ref 4 0 0),(5,dI s1.2.2)],[],[(4,.box 26 [.d (.nil),.d (.nil)]),(2,.box 26 [.d (slD Qxc.enc s1.1),.d (slD Qxd.enc s1.2.1)])],[⟨[],[]⟩]⟩) ?_ ?_
  · exact leX []
  · clear hx4;intro s1 y2 g3 hy2;(conv=>whnf);refine Qc tOk ?_;(conv=>whnf);refine QA g3 (fun _ g3=>?_) (fun _ g3=>?_)
    · (conv=>whnf);refine Qc tOk ?_;(conv=>whnf);obtain ⟨x5,hx5,g3⟩:=Qa g3;refine cE [] 0 (QdA hx5) ?_;(conv=>whnf);obtain ⟨x6,hx6,g3⟩:=Qa g3;refine cE [] 0 (QdA hx6) ?_;(conv=>whnf);obtain rfl:=sj_ g3;exact ⟨_,rfl,leX []⟩
    · (conv=>whnf);obtain rfl:=sj_ g3;obtain rfl:=hy2 _ rfl;obtain rfl:=sj_ h;exact lfE []
noncomputable def QaA (a0:Qxe) (a1:Int):Option (Qxe) :=
 Qc9 a0 a1
theorem Qft {a0:Qxe} {a1:Int} {r:Qxe} (h:QaA a0 a1=some r):EffC Tryz.prog 10 [.agg [.d (slD Qxc.enc a0.Sides),.d (slD Qxd.enc a0.Radio)],dI a1] [] (.agg [.d (slD Qxc.enc r.Sides),.d (slD Qxd.enc r.Radio)]) []:=by
  unfold QaA at h;exact QkD h
noncomputable def Qbl (a0:(List Qxa)):Option ((List Qw8)) :=
 bd (lp (σ:=List Qw8 × Int) (β:=(Nat × (List Qw8))) (fun s1 =>
(if (decide (s1.2<((a0.length:Nat):Int)))=true then
 gd ((0:Int)≤s1.2∧s1.2<((a0.length:Nat):Int)) <|
 gd (((s1.1.length)+(([((a0.getD s1.2.toNat default).Entry)]:List Qw8).length))*(32+1)≤70368744177664) <|
 some (.inl ((s1.1 ++ ([((a0.getD s1.2.toNat default).Entry)]:List Qw8)),IntKind.i64.wrap (s1.2+1)))
else
 some (.inr (s1.1.length,s1.1)))) (([]:List Qw8),0)) fun x4 =>
 some x4.2
theorem Qfu {a0:(List Qxa)} {r:(List Qw8)} (h:Qbl a0=some r):PureC Tryz.prog 33 [.d (slD Qxa.enc a0)] (.osl 5001 0 r.length) [⟨5001,31,4,r.length,rows Qw8.enc r⟩]:=by
  refine Qs tOk (fn:=Tryz.f33) (c:=Ql Tryz.f33) rfl rfl ?_;unfold Qbl at h;(conv=>whnf);refine Qc tOk ?_;(conv=>whnf);obtain ⟨x4,hx4,h⟩:=Qa h;refine Zm tOk hx4 (fun s1=>⟨0,20,[(3,.osl 7001 0 s1.1.length),(7,.d (slD Qxa.enc a0)),(8,dI ((a0.length:Nat):Int)),(9,dI s1.2)],[],[(7001,.arr 31 4 s1.1.length (rows Qw8.enc s1.1))],[]⟩) ?_ ?_
  · exact leX [.p 7001 31 4 (rows Qw8.enc ([]:List Qw8))]
  · clear hx4;intro s1 y2 g3 hy2;(conv=>whnf);refine Qc tOk ?_;(conv=>whnf);refine QA g3 (fun _ g3=>?_) (fun _ g3=>?_)
    · (conv=>whnf);refine Qc tOk ?_;(conv=>whnf);refine gdI g3 (fun g3=>?_);(conv=>whnf);refine Qjp (enc:=Qw8.enc) ([((a0.getD s1.2.toNat default).Entry)]:List Qw8) ?_;(conv=>whnf);refine gdI g3 (fun g3=>?_);refine Qjq (enc:=Qw8.enc) (xs:=s1.1) (ys:=([((a0.getD s1.2.toNat default).Entry)]:List Qw8)) ?_;(conv=>whnf);obtain rfl:=sj_ g3;exact ⟨_,rfl,leX []⟩
    · (conv=>whnf);obtain rfl:=sj_ g3;obtain rfl:=hy2 _ rfl;obtain rfl:=sj_ h;exact lfP [.s [(5001,7001),(7001,5001)]]
noncomputable def JX (a0:Qxb):Option ((List Qw8)) :=
 bd (Jd a0) fun x1 =>
(if (!x1)=true then
 some []
else
 bd (Qbl a0.Heard) fun x2 =>
 some x2)
theorem QfP {a0:Qxb} {r:(List Qw8)} (h:JX a0=some r):PureC Tryz.prog 12 [.agg (heC a0 (.d (slD Qxa.enc a0.Heard)))] (.osl 5001 0 r.length) [⟨5001,31,4,r.length,rows Qw8.enc r⟩]:=by
  refine Qs tOk (fn:=Tryz.f12) (c:=Ql Tryz.f12) rfl rfl ?_;unfold JX at h;(conv=>whnf);refine Qc tOk ?_;(conv=>whnf);obtain ⟨x1,hx1,h⟩:=Qa h;refine cC 0 (QcZ hx1) ?_;clear hx1;(conv=>whnf);refine QA h (fun _ h=>?_) (fun _ h=>?_)
  · (conv=>whnf);obtain rfl:=sj_ h;exact lfP [.k [1],.p 5001 31 4 (rows Qw8.enc ([]:List Qw8))]
  · (conv=>whnf);obtain ⟨x2,hx2,h⟩:=Qa h;refine cC 1000 (Qfu hx2) ?_;clear hx2;(conv=>whnf);obtain rfl:=sj_ h;exact lfP [.s [(5001,6001),(6001,5001)]]
noncomputable def Jm (a0:(List Qw8)) (a1:(List Qw8)):Option (Bool) :=
(if (((a0.length:Nat):Int) != ((a1.length:Nat):Int))=true then
 some false
else
 bd (lp (σ:=Int) (β:=(Unit ⊕ Unit)) (fun s1 =>
(if (decide (s1<((a0.length:Nat):Int)))=true then
 gd ((0:Int)≤s1∧s1<((a0.length:Nat):Int)) <|
 gd ((0:Int)≤s1∧s1<((a1.length:Nat):Int)) <|
(if (!((((a0.getD s1.toNat default).Addr) == ((a1.getD s1.toNat default).Addr)) && ((((a0.getD s1.toNat default).Len) == ((a1.getD s1.toNat default).Len)) && ((((a0.getD s1.toNat default).Cost) == ((a1.getD s1.toNat default).Cost)) && ((((a0.getD s1.toNat default).Label) == ((a1.getD s1.toNat default).Label)) && true)))))=true then
 some (.inr (.inl ()))
else
 some (.inl (IntKind.i64.wrap (s1+1))))
else
 some (.inr (.inr ())))) 0) fun x4 =>
(match x4 with
| .inl d7 =>
 some false
| .inr d8 =>
 some true))
theorem QgB {a0:(List Qw8)} {a1:(List Qw8)} {r:Bool} (h:Jm a0 a1=some r):PureC Tryz.prog 11 [.d (slD Qw8.enc a0),.d (slD Qw8.enc a1)] (dB r) []:=by
  refine Qs tOk (fn:=Tryz.f11) (c:=Ql Tryz.f11) rfl rfl ?_;unfold Jm at h;(conv=>whnf);refine Qc tOk ?_;(conv=>whnf);refine QA h (fun _ h=>?_) (fun _ h=>?_)
  · (conv=>whnf);obtain rfl:=sj_ h;exact lfP []
  · (conv=>whnf);refine Qc tOk ?_;(conv=>whnf);obtain ⟨x4,hx4,h⟩:=Qa h;refine Zm tOk hx4 (fun s1=>⟨0,26,[(0,.d (slD Qw8.enc a0)),(1,.d (slD Qw8.enc a1)),(5,dI s1)],[],[],[]⟩) ?_ ?_
    · exact leX []
    · clear hx4;intro s1 y2 g3 hy2;(conv=>whnf);refine Qc tOk ?_;(conv=>whnf);refine QA g3 (fun _ g3=>?_) (fun _ g3=>?_)
      · (conv=>whnf);refine Qc tOk ?_;(conv=>whnf);obtain ⟨g5,g3⟩:=Qi g3;obtain ⟨g6,g3⟩:=Qi g3;refine QV tOk [] 9 [] [0,0,3,7,0,0,48,112,255] [] ?_;(conv=>whnf);refine And.intro g5 ?_;clear g5;(conv=>whnf);refine And.intro g6 ?_;clear g6;(conv=>whnf);refine And.intro (by kernel_rfl) ?_;(conv=>whnf);refine QA g3 (fun _ g3=>?_) (fun _ g3=>?_)
        · (conv=>whnf);obtain rfl:=sj_ g3;obtain rfl:=hy2 _ rfl;obtain rfl:=sj_ h;exact lfP []
        · (conv=>whnf);obtain rfl:=sj_ g3;exact ⟨_,rfl,leX []⟩
      · (conv=>whnf);obtain rfl:=sj_ g3;obtain rfl:=hy2 _ rfl;obtain rfl:=sj_ h;exact lfP []
noncomputable def QaH (a0:Qxb):Option ((List Qw8)) :=
 bd (Jd a0) fun x1 =>
(if (!x1)=true then
 some []
else
 bd (Qbl a0.Heard) fun x2 =>
 some x2)
theorem Qhs {a0:Qxb} {r:(List Qw8)} (h:QaH a0=some r):EffC Tryz.prog 12 [.agg (heC a0 (.d (slD Qxa.enc a0.Heard)))] [] (.d (slD Qw8.enc r)) []:=by
  refine QS tOk (fn:=Tryz.f12) (c:=Ql Tryz.f12) rfl rfl ?_;unfold QaH at h;(conv=>whnf);refine Qc tOk ?_;(conv=>whnf);obtain ⟨x1,hx1,h⟩:=Qa h;refine cC 0 (QcZ hx1) ?_;clear hx1;(conv=>whnf);refine QA h (fun _ h=>?_) (fun _ h=>?_)
  · (conv=>whnf);obtain rfl:=sj_ h;exact lfE []
  · (conv=>whnf);obtain ⟨x2,hx2,h⟩:=Qa h;refine cC 1000 (Qfu hx2) ?_;clear hx2;(conv=>whnf);obtain rfl:=sj_ h;exact lfE [.f [6001]]
noncomputable def QbE (a0:(List Int)) (a1:(List Int)):Option (Bool) :=
(if ((decide (((a0.length:Nat):Int) > 1048576)) || (decide (((a1.length:Nat):Int) > 1048576)))=true then
 some true
else
 bd (ZP a0) fun x1 =>
 bd (ZP a1) fun x2 =>
 gd ((0:Int)≤0∧0<((x1.Sides.length:Nat):Int)) <|
 bd (Qbv x1 (((x1.Sides.getD 0 default).End).Keys)) fun x4 =>
 bd (Qbv x2 (((x1.Sides.getD 0 default).End).Keys)) fun x5 =>
 bd (lp (σ:=List Qxc × List Qxd × Int) (β:=((List Qxc) × (List Qxd))) (fun s6 =>
(if (decide (s6.2.2<2))=true then
 gd ((0:Int)≤s6.2.2∧s6.2.2<((x4.Sides.length:Nat):Int)) <|
 bd (J7 (⟨s6.1,s6.2.1⟩:Qxe) (⟨8,s6.2.2,((x4.Sides.getD s6.2.2.toNat default).End).Want,[],(⟨0,0,0,0,0,0,0,0,(⟨0,(⟨0,0,0,0⟩:Qw8)⟩:Qw9),0⟩:Qxd)⟩:Qxf)) fun x11 =>
 some (.inl (x11.Sides,x11.Radio,IntKind.i64.wrap (s6.2.2+1)))
else
 some (.inr (s6.1,s6.2.1)))) (x5.Sides,x5.Radio,0)) fun x9 =>
 bd (QaA x4 44) fun x13 =>
 bd (QaA (⟨x9.1,x9.2⟩:Qxe) 44) fun x14 =>
(if ((((x13.Sides.length:Nat):Int) != 2) || (((x14.Sides.length:Nat):Int) != 2))=true then
 some false
else
 bd (lp (σ:=Int) (β:=(Unit ⊕ Unit)) (fun s15 =>
(if (decide (s15<2))=true then
 gd ((0:Int)≤s15∧s15<((x13.Sides.length:Nat):Int)) <|
 bd (JX ({ ((x13.Sides.getD s15.toNat default).End) with Under:=(⟨(((x13.Sides.getD s15.toNat default).End).Under).Kind,((((x13.Sides.getD s15.toNat default).End).Under).Entry)⟩:Qw9) })) fun x20 =>
 gd ((0:Int)≤s15∧s15<((x14.Sides.length:Nat):Int)) <|
 bd (JX ({ ((x14.Sides.getD s15.toNat default).End) with Under:=(⟨(((x14.Sides.getD s15.toNat default).End).Under).Kind,((((x14.Sides.getD s15.toNat default).End).Under).Entry)⟩:Qw9) })) fun x22 =>
 bd (Jm x20 x22) fun x23 =>
 gd ((!x23)=false→((0:Int)≤s15∧s15<((x13.Sides.length:Nat):Int))) <|
 bd (gcall ((!x23)=false) (QaH ({ ((x13.Sides.getD s15.toNat default).End) with Under:=(⟨(((x13.Sides.getD s15.toNat default).End).Under).Kind,((((x13.Sides.getD s15.toNat default).End).Under).Entry)⟩:Qw9) }))) fun x25 =>
 gd ((!x23)=false→((0:Int)≤IntKind.i64.wrap (1 - s15)∧IntKind.i64.wrap (1 - s15)<((x14.Sides.length:Nat):Int))) <|
 bd (gcall ((!x23)=false) (Jm x25 (((x14.Sides.getD ((IntKind.i64.wrap (1 - s15)).toNat) default).End).Want))) fun x27 =>
(if ((!x23) || (!x27))=true then
 some (.inr (.inl ()))
else
 some (.inl (IntKind.i64.wrap (s15+1))))
else
 some (.inr (.inr ())))) 0) fun x18 =>
(match x18 with
| .inl d28 =>
 some false
| .inr d29 =>
 some true)))
theorem Qht {a0:(List Int)} {a1:(List Int)} {r:Bool} (h:QbE a0 a1=some r):PureC Tryz.prog 3 [.d (slD QL a0),.d (slD QL a1)] (dB r) []:=by
  refine Qs tOk (fn:=Tryz.f3) (c:=Ql Tryz.f3) rfl rfl ?_;unfold QbE at h;(conv=>whnf);refine Qc tOk ?_;(conv=>whnf);refine QA h (fun _ h=>?_) (fun _ h=>?_)
  · (conv=>whnf);obtain rfl:=sj_ h;exact lfP []
  · (conv=>whnf);obtain ⟨x1,hx1,h⟩:=Qa h;refine cE [] 1000 (QcI hx1) ?_;(conv=>whnf);obtain ⟨x2,hx2,h⟩:=Qa h;refine cE [] 2000 (QcI hx2) ?_;(conv=>whnf);refine gdI h (fun h=>?_);(conv=>whnf);obtain ⟨x4,hx4,h⟩:=Qa h;refine QdY [6001,6002] ?_;(conv=>whnf);refine cE [] 0 (QgA hx4) ?_;(conv=>whnf);obtain ⟨x5,hx5,h⟩:=Qa h;refine QdY [7001,7002] ?_;(conv=>whnf);refine cE [] 0 (QgA hx5) ?_;(conv=>whnf);refine Qc tOk ?_;(conv=>whnf);obtain ⟨x9,hx9,h⟩:=Qa h;refine Zm tOk hx9 (fun s6=>⟨0,102,[(5,.ref 5 0 0),(6,.ref 6 0 0),(8,dI s6.2.2)],[],[(6,.box 26 [.d (slD Qxc.enc s6.1),.d (slD Qxd.enc s6.2.1)]),(5,.box 26 [.d (slD Qxc.enc x4.Sides),.d (slD Qxd.enc x4.Radio)])],[]⟩) ?_ ?_
    · exact leX []
    · clear hx9;intro s6 y7 g8 hy7;(conv=>whnf);refine Qc tOk ?_;(conv=>whnf);refine QA g8 (fun _ g8=>?_) (fun _ g8=>?_)
      · (conv=>whnf);refine Qc tOk ?_;(conv=>whnf);obtain ⟨g10,g8⟩:=Qi g8;obtain ⟨x11,hx11,g8⟩:=Qa g8;refine QaS tOk [.e 10 [] (.agg [.d (slD Qxc.enc x11.Sides),.d (slD Qxd.enc x11.Radio)]) [] []] 11 [] [0,0,0,4,0,28,60,124,252,510,1023] [2047] [] ?_;(conv=>whnf);refine And.intro g10 ?_;clear g10;(conv=>whnf);refine And.intro (eD [] 0 (QdA hx11)) ?_;(conv=>whnf);refine And.intro (by kernel_rfl) ?_;(conv=>whnf);obtain rfl:=sj_ g8;exact ⟨_,rfl,leX []⟩
      · (conv=>whnf);obtain rfl:=sj_ g8;obtain rfl:=hy7 _ rfl;obtain ⟨x13,hx13,h⟩:=Qa h;refine cE [] 0 (Qft hx13) ?_;(conv=>whnf);obtain ⟨x14,hx14,h⟩:=Qa h;refine cE [] 0 (Qft hx14) ?_;(conv=>whnf);refine Qc tOk ?_;(conv=>whnf);refine QA h (fun _ h=>?_) (fun _ h=>?_)
        · (conv=>whnf);obtain rfl:=sj_ h;exact lfP []
        · (conv=>whnf);refine Qc tOk ?_;(conv=>whnf);obtain ⟨x18,hx18,h⟩:=Qa h;refine Zm tOk hx18 (fun s15=>⟨0,102,[(5,.ref 5 0 0),(6,.ref 6 0 0),(9,dI s15)],[],[(6,.box 26 [.d (slD Qxc.enc x14.Sides),.d (slD Qxd.enc x14.Radio)]),(5,.box 26 [.d (slD Qxc.enc x13.Sides),.d (slD Qxd.enc x13.Radio)])],[]⟩) ?_ ?_
          · exact leX []
          · clear hx18;intro s15 y16 g17 hy16;(conv=>whnf);refine Qc tOk ?_;(conv=>whnf);refine QA g17 (fun _ g17=>?_) (fun _ g17=>?_)
            · (conv=>whnf);refine Qc tOk ?_;(conv=>whnf);obtain ⟨g19,g17⟩:=Qi g17;obtain ⟨x20,hx20,g17⟩:=Qa g17;obtain ⟨g21,g17⟩:=Qi g17;obtain ⟨x22,hx22,g17⟩:=Qa g17;obtain ⟨x23,hx23,g17⟩:=Qa g17;obtain ⟨g24,g17⟩:=Qi g17;obtain ⟨x25,hx25,g17⟩:=Qa g17;obtain ⟨g26,g17⟩:=Qi g17;obtain ⟨x27,hx27,g17⟩:=Qa g17;refine QaS tOk [.u 6 1000 (.osl 5001 0 x20.length) [⟨5001,31,4,x20.length,rows Qw8.enc x20⟩],.u 13 2000 (.osl 5001 0 x22.length) [⟨5001,31,4,x22.length,rows Qw8.enc x22⟩],.u 14 0 (dB x23) [],.e 23 [] (.d (slD Qw8.enc x25)) [] [],.u 32 0 (dB x27) []] 35 [] [0,1,0,7,15,31,63,0,128,0,896,1920,3968,8191,16383,32767,65535,131071,262143,131071,1048575,2097151,4194303,8388607,131071,16908287,131071,67239935,251789311,520224767,1057095679,2130837503,4294967295,8589934591,17179869183] [] [] ?_;(conv=>whnf);refine And.intro g19 ?_;clear g19;(conv=>whnf);refine And.intro (QJ (QfP hx20) (by kernel_rfl)) ?_;(conv=>whnf);refine And.intro g21 ?_;clear g21;(conv=>whnf);refine And.intro (QJ (QfP hx22) (by kernel_rfl)) ?_;(conv=>whnf);refine And.intro (QJ (QgB hx23) (by kernel_rfl)) ?_;(conv=>whnf);refine And.intro g24 ?_;clear g24;(conv=>whnf);refine And.intro (And.intro ⟨⟨Tryz.f12,rfl,rfl,rfl⟩⟩ (And.intro (by intro c0; exact eD [] 0 (Qhs (Qf hx25 c0))) (Qhk inA))) ?_;(conv=>whnf);refine And.intro g26 ?_;clear g26;(conv=>whnf);refine And.intro (Zc rfl rfl rfl rfl (by intro c0; exact QgB (Qf hx27 c0))) ?_;(conv=>whnf);refine And.intro (by kernel_rfl) ?_;(conv=>whnf);refine QA g17 (fun _ g17=>?_) (fun _ g17=>?_)
              · (conv=>whnf);obtain rfl:=sj_ g17;obtain rfl:=hy16 _ rfl;obtain rfl:=sj_ h;exact lfP []
              · (conv=>whnf);obtain rfl:=sj_ g17;exact ⟨_,rfl,leX []⟩
            · (conv=>whnf);obtain rfl:=sj_ g17;obtain rfl:=hy16 _ rfl;obtain rfl:=sj_ h;exact lfP []
end Go.Proofs.YtjgjdobkahdgfaaGreat
