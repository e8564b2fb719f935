/-
  What some of the program's functions compute: their models, and that the functions compute these; no condition.
-/
import Derived.Test.YtjgjdobkahdgfaaGreatTyz
import Derived.Test.YtjgjdobkahdgfaaGreatTbz
import Derived.Test.YtjgjdobkahdgfaaGreatAbz7
import Derived.Test.YtjgjdobkahdgfaaGreatKz3
set_option linter.all false
namespace Go.Proofs.YtjgjdobkahdgfaaGreat
open Go Go.Ab
set_option maxRecDepth 100000
set_option maxHeartbeats 40000000
noncomputable def QaD (a0:Qv0) (a1:Qv5):Option (Qv5 × Qv0) :=
 bd (Za a1) fun x1 =>
 bd (α:=List Qv1 × List Qv2 × List Qv2 × List Qv4 × Int × Int × Int × Int × Int × Int × Int × Int × Int × Bool × Int × Int × Int × Int × Int × Bool × Int × Int) (bd (Qc a0 18) fun x5 =>
(if (x5.1 == 16)=true then
 some (x1.Keys,x1.Want,x1.Told,x1.Heard,x1.Name,x1.Peer,x1.Num,x1.Under.Kind,x1.Under.Entry.Addr,x1.Under.Entry.Len,x1.Under.Entry.Cost,x1.Under.Entry.Label,x1.Got,(!x1.Full),x1.Keep,x1.Boot,x1.Turn,x1.PeerBoot,x1.PeerTurn,x1.Up,x1.Left,x5.2.p)
else
(if (x5.1 == 17)=true then
 bd (lp (σ:=List Qv2 × Int) (β:=((List Qv2) × Nat)) (fun s6 =>
(if (decide (((s6.1.length:Nat):Int)<8))=true then
 bd (JI s6.1 (⟨IntKind.i64.wrap (16384+s6.2),16,1,0⟩:Qv2)) fun x10 =>
 some (.inl (x10,IntKind.i64.wrap (s6.2+1)))
else
 some (.inr (s6.1,s6.1.length)))) (x1.Told,0)) fun x9 =>
 bd (Qc (⟨a0.b,x5.2.p⟩:Qv0) 8) fun x12 =>
 gd ((1000:Int) ≠ 0) <|
 some (x1.Keys,x1.Want,x9.1,x1.Heard,x1.Name,x1.Peer,IntKind.i64.wrap (((x1.Turn:Int).tmod 1000)+1),1,IntKind.i64.wrap (16384+(IntKind.i64.wrap (2*x12.1))),16,2,0,x1.Got,x1.Full,x1.Keep,x1.Boot,IntKind.i64.wrap (((x1.Turn:Int).tmod 1000)+1),x1.PeerBoot,x1.PeerTurn,x1.Up,x1.Left,x12.2.p)
else
(if (x5.1 == 0)=true then
 bd (Qc (⟨a0.b,x5.2.p⟩:Qv0) 3) fun x14 =>
 gd ((0:Int)≤x14.1∧x14.1<((([-1,65536,x1.Peer]:List Int).length:Nat):Int)) <|
 some (x1.Keys,x1.Want,x1.Told,x1.Heard,(([-1,65536,x1.Peer]:List Int).getD x14.1.toNat default),x1.Peer,x1.Num,x1.Under.Kind,x1.Under.Entry.Addr,x1.Under.Entry.Len,x1.Under.Entry.Cost,x1.Under.Entry.Label,x1.Got,x1.Full,x1.Keep,x1.Boot,x1.Turn,x1.PeerBoot,x1.PeerTurn,x1.Up,x1.Left,x14.2.p)
else
(if (x5.1 == 1)=true then
 bd (Qc (⟨a0.b,x5.2.p⟩:Qv0) 3) fun x16 =>
 gd ((0:Int)≤x16.1∧x16.1<((([-1,65536,65535]:List Int).length:Nat):Int)) <|
 some (x1.Keys,x1.Want,x1.Told,x1.Heard,x1.Name,(([-1,65536,65535]:List Int).getD x16.1.toNat default),x1.Num,x1.Under.Kind,x1.Under.Entry.Addr,x1.Under.Entry.Len,x1.Under.Entry.Cost,x1.Under.Entry.Label,x1.Got,x1.Full,x1.Keep,x1.Boot,x1.Turn,x1.PeerBoot,x1.PeerTurn,x1.Up,x1.Left,x16.2.p)
else
(if (x5.1 == 2)=true then
 bd (Qaq (⟨a0.b,x5.2.p⟩:Qv0) x1.Keys) fun x18 =>
 some (x18.1,x1.Want,x1.Told,x1.Heard,x1.Name,x1.Peer,x1.Num,x1.Under.Kind,x1.Under.Entry.Addr,x1.Under.Entry.Len,x1.Under.Entry.Cost,x1.Under.Entry.Label,x1.Got,x1.Full,x1.Keep,x1.Boot,x1.Turn,x1.PeerBoot,x1.PeerTurn,x1.Up,x1.Left,x18.2.p)
else
(if (x5.1 == 3)=true then
 bd (Qc (⟨a0.b,x5.2.p⟩:Qv0) 4) fun x19 =>
 gd ((0:Int)≤x19.1∧x19.1<((([0,1,1000,1001]:List Int).length:Nat):Int)) <|
 some (x1.Keys,x1.Want,x1.Told,x1.Heard,x1.Name,x1.Peer,x1.Num,x1.Under.Kind,x1.Under.Entry.Addr,x1.Under.Entry.Len,x1.Under.Entry.Cost,x1.Under.Entry.Label,x1.Got,x1.Full,x1.Keep,(([0,1,1000,1001]:List Int).getD x19.1.toNat default),x1.Turn,x1.PeerBoot,x1.PeerTurn,x1.Up,x1.Left,x19.2.p)
else
(if (x5.1 == 4)=true then
 bd (Js (⟨a0.b,x5.2.p⟩:Qv0) x1.Want) fun x21 =>
 some (x1.Keys,x21.1,x1.Told,x1.Heard,x1.Name,x1.Peer,x1.Num,x1.Under.Kind,x1.Under.Entry.Addr,x1.Under.Entry.Len,x1.Under.Entry.Cost,x1.Under.Entry.Label,x1.Got,x1.Full,x1.Keep,x1.Boot,x1.Turn,x1.PeerBoot,x1.PeerTurn,x1.Up,x1.Left,x21.2.p)
else
(if (x5.1 == 5)=true then
 bd (Qc (⟨a0.b,x5.2.p⟩:Qv0) 4) fun x22 =>
 gd ((0:Int)≤x22.1∧x22.1<((([-1,0,1000000,1000001]:List Int).length:Nat):Int)) <|
 some (x1.Keys,x1.Want,x1.Told,x1.Heard,x1.Name,x1.Peer,x1.Num,x1.Under.Kind,x1.Under.Entry.Addr,x1.Under.Entry.Len,x1.Under.Entry.Cost,x1.Under.Entry.Label,x1.Got,x1.Full,x1.Keep,x1.Boot,(([-1,0,1000000,1000001]:List Int).getD x22.1.toNat default),x1.PeerBoot,x1.PeerTurn,x1.Up,x1.Left,x22.2.p)
else
(if (x5.1 == 6)=true then
 bd (Qc (⟨a0.b,x5.2.p⟩:Qv0) 4) fun x24 =>
 gd ((0:Int)≤x24.1∧x24.1<((([-1,0,999,1000]:List Int).length:Nat):Int)) <|
 some (x1.Keys,x1.Want,x1.Told,x1.Heard,x1.Name,x1.Peer,x1.Num,x1.Under.Kind,x1.Under.Entry.Addr,x1.Under.Entry.Len,x1.Under.Entry.Cost,x1.Under.Entry.Label,x1.Got,x1.Full,x1.Keep,x1.Boot,x1.Turn,(([-1,0,999,1000]:List Int).getD x24.1.toNat default),x1.PeerTurn,x1.Up,x1.Left,x24.2.p)
else
(if (x5.1 == 7)=true then
 bd (Qc (⟨a0.b,x5.2.p⟩:Qv0) 4) fun x26 =>
 gd ((0:Int)≤x26.1∧x26.1<((([-1,0,1,1000001]:List Int).length:Nat):Int)) <|
 some (x1.Keys,x1.Want,x1.Told,x1.Heard,x1.Name,x1.Peer,x1.Num,x1.Under.Kind,x1.Under.Entry.Addr,x1.Under.Entry.Len,x1.Under.Entry.Cost,x1.Under.Entry.Label,x1.Got,x1.Full,x1.Keep,x1.Boot,x1.Turn,x1.PeerBoot,(([-1,0,1,1000001]:List Int).getD x26.1.toNat default),x1.Up,x1.Left,x26.2.p)
else
(if (x5.1 == 8)=true then
 some (x1.Keys,x1.Want,x1.Told,x1.Heard,x1.Name,x1.Peer,x1.Num,x1.Under.Kind,x1.Under.Entry.Addr,x1.Under.Entry.Len,x1.Under.Entry.Cost,x1.Under.Entry.Label,x1.Got,x1.Full,x1.Keep,x1.Boot,x1.Turn,x1.PeerBoot,x1.PeerTurn,(!x1.Up),x1.Left,x5.2.p)
else
(if (x5.1 == 9)=true then
 bd (Qc (⟨a0.b,x5.2.p⟩:Qv0) 4) fun x28 =>
 gd ((0:Int)≤x28.1∧x28.1<((([-1,0,4,5]:List Int).length:Nat):Int)) <|
 some (x1.Keys,x1.Want,x1.Told,x1.Heard,x1.Name,x1.Peer,x1.Num,x1.Under.Kind,x1.Under.Entry.Addr,x1.Under.Entry.Len,x1.Under.Entry.Cost,x1.Under.Entry.Label,x1.Got,x1.Full,x1.Keep,x1.Boot,x1.Turn,x1.PeerBoot,x1.PeerTurn,x1.Up,(([-1,0,4,5]:List Int).getD x28.1.toNat default),x28.2.p)
else
(if (x5.1 == 10)=true then
 bd (Qc (⟨a0.b,x5.2.p⟩:Qv0) 4) fun x30 =>
 gd ((0:Int)≤x30.1∧x30.1<((([-1,0,x1.Turn,IntKind.i64.wrap (x1.Turn+1)]:List Int).length:Nat):Int)) <|
 some (x1.Keys,x1.Want,x1.Told,x1.Heard,x1.Name,x1.Peer,(([-1,0,x1.Turn,IntKind.i64.wrap (x1.Turn+1)]:List Int).getD x30.1.toNat default),x1.Under.Kind,x1.Under.Entry.Addr,x1.Under.Entry.Len,x1.Under.Entry.Cost,x1.Under.Entry.Label,x1.Got,x1.Full,x1.Keep,x1.Boot,x1.Turn,x1.PeerBoot,x1.PeerTurn,x1.Up,x1.Left,x30.2.p)
else
(if (x5.1 == 11)=true then
 bd (Qc (⟨a0.b,x5.2.p⟩:Qv0) 6) fun x32 =>
 bd (JM (⟨a0.b,x32.2.p⟩:Qv0)) fun x33 =>
 some (x1.Keys,x1.Want,x1.Told,x1.Heard,x1.Name,x1.Peer,x1.Num,IntKind.i64.wrap (x32.1 - 1),x33.1.Addr,x33.1.Len,x33.1.Cost,x33.1.Label,x1.Got,x1.Full,x1.Keep,x1.Boot,x1.Turn,x1.PeerBoot,x1.PeerTurn,x1.Up,x1.Left,x33.2.p)
else
(if (x5.1 == 12)=true then
 bd (Js (⟨a0.b,x5.2.p⟩:Qv0) x1.Told) fun x34 =>
 some (x1.Keys,x1.Want,x34.1,x1.Heard,x1.Name,x1.Peer,x1.Num,x1.Under.Kind,x1.Under.Entry.Addr,x1.Under.Entry.Len,x1.Under.Entry.Cost,x1.Under.Entry.Label,x1.Got,x1.Full,x1.Keep,x1.Boot,x1.Turn,x1.PeerBoot,x1.PeerTurn,x1.Up,x1.Left,x34.2.p)
else
(if (x5.1 == 13)=true then
 bd (Qc (⟨a0.b,x5.2.p⟩:Qv0) 3) fun x35 =>
 gd ((0:Int)≤x35.1∧x35.1<((([-1,1000000,1000001]:List Int).length:Nat):Int)) <|
 some (x1.Keys,x1.Want,x1.Told,x1.Heard,x1.Name,x1.Peer,x1.Num,x1.Under.Kind,x1.Under.Entry.Addr,x1.Under.Entry.Len,x1.Under.Entry.Cost,x1.Under.Entry.Label,(([-1,1000000,1000001]:List Int).getD x35.1.toNat default),x1.Full,x1.Keep,x1.Boot,x1.Turn,x1.PeerBoot,x1.PeerTurn,x1.Up,x1.Left,x35.2.p)
else
(if (x5.1 == 14)=true then
 bd (Qc (⟨a0.b,x5.2.p⟩:Qv0) 5) fun x37 =>
 gd ((0:Int)≤x37.1∧x37.1<((([-1,0,1,6,7]:List Int).length:Nat):Int)) <|
 some (x1.Keys,x1.Want,x1.Told,x1.Heard,x1.Name,x1.Peer,x1.Num,x1.Under.Kind,x1.Under.Entry.Addr,x1.Under.Entry.Len,x1.Under.Entry.Cost,x1.Under.Entry.Label,x1.Got,x1.Full,(([-1,0,1,6,7]:List Int).getD x37.1.toNat default),x1.Boot,x1.Turn,x1.PeerBoot,x1.PeerTurn,x1.Up,x1.Left,x37.2.p)
else
(if (decide (((x1.Heard.length:Nat):Int) > 0))=true then
 bd (Qc (⟨a0.b,x5.2.p⟩:Qv0) ((x1.Heard.length:Nat):Int)) fun x39 =>
 gd ((0:Int)≤x39.1∧x39.1<((x1.Heard.length:Nat):Int)) <|
 gd ((0:Int)≤x39.1∧x39.1<((x1.Heard.length:Nat):Int)) <|
 bd (some (x1.Heard.set x39.1.toNat (⟨((x1.Heard.getD x39.1.toNat default).Entry),(!((x1.Heard.getD x39.1.toNat default).Stale))⟩:Qv4))) fun x42 =>
 bd (Qc (⟨a0.b,x39.2.p⟩:Qv0) 2) fun x43 =>
(if (x43.1 == 0)=true then
 gd ((0:Int)≤x39.1∧x39.1<((x1.Heard.length:Nat):Int)) <|
 bd (ZW (⟨a0.b,x43.2.p⟩:Qv0) ((x42.getD x39.1.toNat default).Entry)) fun x45 =>
 gd ((0:Int)≤x39.1∧x39.1<((x1.Heard.length:Nat):Int)) <|
 some (x1.Keys,x1.Want,x1.Told,x42.set x39.1.toNat (⟨x45.1,(x42.getD x39.1.toNat default).Stale⟩:Qv4),x1.Name,x1.Peer,x1.Num,x1.Under.Kind,x1.Under.Entry.Addr,x1.Under.Entry.Len,x1.Under.Entry.Cost,x1.Under.Entry.Label,x1.Got,x1.Full,x1.Keep,x1.Boot,x1.Turn,x1.PeerBoot,x1.PeerTurn,x1.Up,x1.Left,x45.2.p)
else
 some (x1.Keys,x1.Want,x1.Told,x42,x1.Name,x1.Peer,x1.Num,x1.Under.Kind,x1.Under.Entry.Addr,x1.Under.Entry.Len,x1.Under.Entry.Cost,x1.Under.Entry.Label,x1.Got,x1.Full,x1.Keep,x1.Boot,x1.Turn,x1.PeerBoot,x1.PeerTurn,x1.Up,x1.Left,x43.2.p))
else
 some (x1.Keys,x1.Want,x1.Told,x1.Heard,x1.Name,x1.Peer,x1.Num,x1.Under.Kind,x1.Under.Entry.Addr,x1.Under.Entry.Len,x1.Under.Entry.Cost,x1.Under.Entry.Label,x1.Got,x1.Full,x1.Keep,x1.Boot,x1.Turn,x1.PeerBoot,x1.PeerTurn,x1.Up,x1.Left,x5.2.p)))))))))))))))))))) fun x2 =>
 some ((⟨x2.2.2.2.2.1,x2.2.2.2.2.2.1,x2.1,x2.2.2.2.2.2.2.2.2.2.2.2.2.2.2.2.1,x2.2.1,x2.2.2.2.2.2.2.2.2.2.2.2.2.2.2.2.2.1,x2.2.2.2.2.2.2.2.2.2.2.2.2.2.2.2.2.2.1,x2.2.2.2.2.2.2.2.2.2.2.2.2.2.2.2.2.2.2.1,x2.2.2.2.2.2.2.2.2.2.2.2.2.2.2.2.2.2.2.2.1,x2.2.2.2.2.2.2.2.2.2.2.2.2.2.2.2.2.2.2.2.2.1,x2.2.2.2.2.2.2.1,(⟨x2.2.2.2.2.2.2.2.1,(⟨x2.2.2.2.2.2.2.2.2.1,x2.2.2.2.2.2.2.2.2.2.1,x2.2.2.2.2.2.2.2.2.2.2.1,x2.2.2.2.2.2.2.2.2.2.2.2.1⟩:Qv2)⟩:Qv3),x2.2.2.1,x1.All,x2.2.2.2.2.2.2.2.2.2.2.2.2.1,x2.2.2.2.2.2.2.2.2.2.2.2.2.2.1,x2.2.2.2.1,x2.2.2.2.2.2.2.2.2.2.2.2.2.2.2.1⟩:Qv5),(⟨a0.b,x2.2.2.2.2.2.2.2.2.2.2.2.2.2.2.2.2.2.2.2.2.2⟩:Qv0))
theorem Qhk {a0:Qv0} {a1:Qv5} {r:Qv5 × Qv0} (h:QaD a0 a1=some r):EffC Tryz.prog 124 [.ref 9000 0 0,.agg (heC a1 (.d (slD Qv4.enc a1.Heard)))] [(9000,.box 75 [.d (slD Qq a0.b),dI a0.p])] (.agg (dI r.1.Name :: dI r.1.Peer :: .osl 5001 0 r.1.Keys.length :: dI r.1.Boot :: .osl 5002 0 r.1.Want.length :: dI r.1.Turn :: dI r.1.PeerBoot :: dI r.1.PeerTurn :: dB r.1.Up :: dI r.1.Left :: dI r.1.Num :: dI r.1.Under.Kind :: hnC r.1.Under.Entry ++ [.osl 5003 0 r.1.Told.length,dB r.1.All,dI r.1.Got,dB r.1.Full,.osl 5004 0 r.1.Heard.length,dI r.1.Keep])) [(9000,.box 75 [.d (slD Qq a0.b),dI r.2.p]),(5001,.arr 93 2 r.1.Keys.length (rows Qv1.enc r.1.Keys)),(5002,.arr 31 4 r.1.Want.length (rows Qv2.enc r.1.Want)),(5003,.arr 31 4 r.1.Told.length (rows Qv2.enc r.1.Told)),(5004,.arr 96 5 r.1.Heard.length (rows Qv4.enc r.1.Heard))]:=by
  refine QQ tOk (fn:=Tryz.f124) (c:=Qj Tryz.f124) rfl rfl ?_;unfold QaD at h;(conv=>whnf);obtain ⟨x1,hx1,h⟩:=Qa h;refine cC 1000 (Z4 hx1) ?_;clear hx1;(conv=>whnf);obtain ⟨x2,hx2,h⟩:=Qa h;refine Ji tOk (fun s3=>⟨0,208,[(3,.ref 3 0 0),(4,.ref 4 0 0)],[],[(6004,.arr 96 5 s3.2.2.2.1.length (rows Qv4.enc s3.2.2.2.1)),(6003,.arr 31 4 s3.2.2.1.length (rows Qv2.enc s3.2.2.1)),(6002,.arr 31 4 s3.2.1.length (rows Qv2.enc s3.2.1)),(6001,.arr 93 2 s3.1.length (rows Qv1.enc s3.1)),(4,.box 36 [dI 0,dI 0,.d (.nil),dI 0,.d (.nil),dI 0,dI 0,dI 0,dB false,dI 0,dI 0,dI 0,dI 0,dI 0,dI 0,dI 0,.d (.nil),dB false,dI 0,dB false,.d (.nil),dI 0]),(3,.box 36 [dI s3.2.2.2.2.1,dI s3.2.2.2.2.2.1,.osl 6001 0 s3.1.length,dI s3.2.2.2.2.2.2.2.2.2.2.2.2.2.2.2.1,.osl 6002 0 s3.2.1.length,dI s3.2.2.2.2.2.2.2.2.2.2.2.2.2.2.2.2.1,dI s3.2.2.2.2.2.2.2.2.2.2.2.2.2.2.2.2.2.1,dI s3.2.2.2.2.2.2.2.2.2.2.2.2.2.2.2.2.2.2.1,dB s3.2.2.2.2.2.2.2.2.2.2.2.2.2.2.2.2.2.2.2.1,dI s3.2.2.2.2.2.2.2.2.2.2.2.2.2.2.2.2.2.2.2.2.1,dI s3.2.2.2.2.2.2.1,dI s3.2.2.2.2.2.2.2.1,dI s3.2.2.2.2.2.2.2.2.1,dI s3.2.2.2.2.2.2.2.2.2.1,dI s3.2.2.2.2.2.2.2.2.2.2.1,dI s3.2.2.2.2.2.2.2.2.2.2.2.1,.osl 6003 0 s3.2.2.1.length,dB x1.All,dI s3.2.2.2.2.2.2.2.2.2.2.2.2.1,dB s3.2.2.2.2.2.2.2.2.2.2.2.2.2.1,.osl 6004 0 s3.2.2.2.1.length,dI s3.2.2.2.2.2.2.2.2.2.2.2.2.2.2.1]),(9000,.box 75 [.d (slD Qq a0.b),dI s3.2.2.2.2.2.2.2.2.2.2.2.2.2.2.2.2.2.2.2.2.2])],[⟨[(0,.ref 9000 0 0)],[]⟩]⟩) (fun s3=>x2=s3) ?_ ?_
  · (conv=>whnf);obtain ⟨x5,hx5,hx2⟩:=Qa hx2;refine cE [(9000,9000)] 0 (Qd hx5) ?_;(conv=>whnf);refine Qu hx2 (fun _ hx2=>?_) (fun _ hx2=>?_)
    · (conv=>whnf);obtain rfl:=sj_ hx2;exact ⟨_,rfl,leX []⟩
    · (conv=>whnf);refine Qu hx2 (fun _ hx2=>?_) (fun _ hx2=>?_)
      · (conv=>whnf);refine Qe tOk ?_;(conv=>whnf);obtain ⟨x9,hx9,hx2⟩:=Qa hx2;refine Zh tOk hx9 (fun s6=>⟨0,208,[(0,.ref 9000 0 0),(3,.ref 3 0 0),(4,.ref 4 0 0),(5,dI s6.2)],[],[(6004,.arr 96 5 x1.Heard.length (rows Qv4.enc x1.Heard)),(6003,.arr 31 4 s6.1.length (rows Qv2.enc s6.1)),(6002,.arr 31 4 x1.Want.length (rows Qv2.enc x1.Want)),(6001,.arr 93 2 x1.Keys.length (rows Qv1.enc x1.Keys)),(4,.box 36 [dI 0,dI 0,.d (.nil),dI 0,.d (.nil),dI 0,dI 0,dI 0,dB false,dI 0,dI 0,dI 0,dI 0,dI 0,dI 0,dI 0,.d (.nil),dB false,dI 0,dB false,.d (.nil),dI 0]),(3,.box 36 (dI x1.Name :: dI x1.Peer :: .osl 6001 0 x1.Keys.length :: dI x1.Boot :: .osl 6002 0 x1.Want.length :: dI x1.Turn :: dI x1.PeerBoot :: dI x1.PeerTurn :: dB x1.Up :: dI x1.Left :: dI x1.Num :: dI x1.Under.Kind :: hnC x1.Under.Entry ++ [.osl 6003 0 s6.1.length,dB x1.All,dI x1.Got,dB x1.Full,.osl 6004 0 x1.Heard.length,dI x1.Keep])),(9000,.box 75 [.d (slD Qq a0.b),dI x5.2.p])],[⟨[(0,.ref 9000 0 0)],[]⟩]⟩) ?_ ?_
        · exact leX []
        · clear hx9;intro s6 y7 g8 hy7;(conv=>whnf);refine Qe tOk ?_;(conv=>whnf);refine Qu g8 (fun _ g8=>?_) (fun _ g8=>?_)
          · (conv=>whnf);refine Qe tOk ?_;(conv=>whnf);obtain ⟨x10,hx10,g8⟩:=Qa g8;refine cC 2000 (QcA hx10) ?_;clear hx10;(conv=>whnf);obtain rfl:=sj_ g8;exact ⟨_,rfl,leX [.s [(6003,7001),(7001,6003)]]⟩
          · (conv=>whnf);obtain rfl:=sj_ g8;obtain rfl:=hy7 _ rfl;obtain ⟨x12,hx12,hx2⟩:=Qa hx2;refine cE [(9000,9000)] 0 (Qd hx12) ?_;(conv=>whnf);refine gdI hx2 (fun hx2=>?_);(conv=>whnf);obtain rfl:=sj_ hx2;exact ⟨_,rfl,leX []⟩
      · (conv=>whnf);refine Qu hx2 (fun _ hx2=>?_) (fun _ hx2=>?_)
        · (conv=>whnf);obtain ⟨x14,hx14,hx2⟩:=Qa hx2;obtain ⟨g15,hx2⟩:=Qg hx2;refine JA tOk [.e 4 [(9000,.box 75 [.d (slD Qq a0.b),dI x5.2.p])] (dI x14.1) [] [(9000,.box 75 [.d (slD Qq a0.b),dI x14.2.p])]] 8 [] [0,1,3,0,8,31,63,127] [255] [9000] ?_;(conv=>whnf);refine QcT (enc:=Jz) ([-1,65536,x1.Peer]:List Int) ?_;(conv=>whnf);refine And.intro (eD [(9000,9000)] 0 (Qd hx14)) ?_;(conv=>whnf);refine And.intro g15 ?_;clear g15;(conv=>whnf);refine And.intro (by kernel_rfl) ?_;(conv=>whnf);obtain rfl:=sj_ hx2;exact ⟨_,rfl,leX []⟩
        · (conv=>whnf);refine Qu hx2 (fun _ hx2=>?_) (fun _ hx2=>?_)
          · (conv=>whnf);refine QcT (enc:=Jz) ([-1,65536,65535]:List Int) ?_;(conv=>whnf);obtain ⟨x16,hx16,hx2⟩:=Qa hx2;refine cE [(9000,9000)] 0 (Qd hx16) ?_;(conv=>whnf);refine gdI hx2 (fun hx2=>?_);(conv=>whnf);obtain rfl:=sj_ hx2;exact ⟨_,rfl,leX []⟩
          · (conv=>whnf);refine Qu hx2 (fun _ hx2=>?_) (fun _ hx2=>?_)
            · (conv=>whnf);obtain ⟨x18,hx18,hx2⟩:=Qa hx2;refine QcU [6001] ?_;(conv=>whnf);refine cE [(9000,9000)] 1000 (QgP hx18) ?_;(conv=>whnf);obtain rfl:=sj_ hx2;exact ⟨_,rfl,leX []⟩
            · (conv=>whnf);refine Qu hx2 (fun _ hx2=>?_) (fun _ hx2=>?_)
              · (conv=>whnf);refine QcT (enc:=Jz) ([0,1,1000,1001]:List Int) ?_;(conv=>whnf);obtain ⟨x19,hx19,hx2⟩:=Qa hx2;refine cE [(9000,9000)] 0 (Qd hx19) ?_;(conv=>whnf);refine gdI hx2 (fun hx2=>?_);(conv=>whnf);obtain rfl:=sj_ hx2;exact ⟨_,rfl,leX []⟩
              · (conv=>whnf);refine Qu hx2 (fun _ hx2=>?_) (fun _ hx2=>?_)
                · (conv=>whnf);obtain ⟨x21,hx21,hx2⟩:=Qa hx2;refine QcU [6002] ?_;(conv=>whnf);refine cE [(9000,9000)] 2000 (Qdw hx21) ?_;(conv=>whnf);obtain rfl:=sj_ hx2;exact ⟨_,rfl,leX [.s [(6002,7001),(7001,6002)]]⟩
                · (conv=>whnf);refine Qu hx2 (fun _ hx2=>?_) (fun _ hx2=>?_)
                  · (conv=>whnf);refine QcT (enc:=Jz) ([-1,0,1000000,1000001]:List Int) ?_;(conv=>whnf);obtain ⟨x22,hx22,hx2⟩:=Qa hx2;refine cE [(9000,9000)] 0 (Qd hx22) ?_;(conv=>whnf);refine gdI hx2 (fun hx2=>?_);(conv=>whnf);obtain rfl:=sj_ hx2;exact ⟨_,rfl,leX []⟩
                  · (conv=>whnf);refine Qu hx2 (fun _ hx2=>?_) (fun _ hx2=>?_)
                    · (conv=>whnf);refine QcT (enc:=Jz) ([-1,0,999,1000]:List Int) ?_;(conv=>whnf);obtain ⟨x24,hx24,hx2⟩:=Qa hx2;refine cE [(9000,9000)] 0 (Qd hx24) ?_;(conv=>whnf);refine gdI hx2 (fun hx2=>?_);(conv=>whnf);obtain rfl:=sj_ hx2;exact ⟨_,rfl,leX []⟩
                    · (conv=>whnf);refine Qu hx2 (fun _ hx2=>?_) (fun _ hx2=>?_)
                      · (conv=>whnf);refine QcT (enc:=Jz) ([-1,0,1,1000001]:List Int) ?_;(conv=>whnf);obtain ⟨x26,hx26,hx2⟩:=Qa hx2;refine cE [(9000,9000)] 0 (Qd hx26) ?_;(conv=>whnf);refine gdI hx2 (fun hx2=>?_);(conv=>whnf);obtain rfl:=sj_ hx2;exact ⟨_,rfl,leX []⟩
                      · (conv=>whnf);refine Qu hx2 (fun _ hx2=>?_) (fun _ hx2=>?_)
                        · (conv=>whnf);obtain rfl:=sj_ hx2;exact ⟨_,rfl,leX []⟩
                        · (conv=>whnf);refine Qu hx2 (fun _ hx2=>?_) (fun _ hx2=>?_)
                          · (conv=>whnf);refine QcT (enc:=Jz) ([-1,0,4,5]:List Int) ?_;(conv=>whnf);obtain ⟨x28,hx28,hx2⟩:=Qa hx2;refine cE [(9000,9000)] 0 (Qd hx28) ?_;(conv=>whnf);refine gdI hx2 (fun hx2=>?_);(conv=>whnf);obtain rfl:=sj_ hx2;exact ⟨_,rfl,leX []⟩
                          · (conv=>whnf);refine Qu hx2 (fun _ hx2=>?_) (fun _ hx2=>?_)
                            · (conv=>whnf);obtain ⟨x30,hx30,hx2⟩:=Qa hx2;obtain ⟨g31,hx2⟩:=Qg hx2;refine JA tOk [.e 7 [(9000,.box 75 [.d (slD Qq a0.b),dI x5.2.p])] (dI x30.1) [] [(9000,.box 75 [.d (slD Qq a0.b),dI x30.2.p])]] 11 [] [0,1,0,4,12,31,0,64,255,511,1023] [2047] [9000] ?_;(conv=>whnf);refine QcT (enc:=Jz) ([-1,0,x1.Turn,IntKind.i64.wrap (x1.Turn+1)]:List Int) ?_;(conv=>whnf);refine And.intro (eD [(9000,9000)] 0 (Qd hx30)) ?_;(conv=>whnf);refine And.intro g31 ?_;clear g31;(conv=>whnf);refine And.intro (by kernel_rfl) ?_;(conv=>whnf);obtain rfl:=sj_ hx2;exact ⟨_,rfl,leX []⟩
                            · (conv=>whnf);refine Qu hx2 (fun _ hx2=>?_) (fun _ hx2=>?_)
                              · (conv=>whnf);obtain ⟨x32,hx32,hx2⟩:=Qa hx2;refine cE [(9000,9000)] 0 (Qd hx32) ?_;(conv=>whnf);obtain ⟨x33,hx33,hx2⟩:=Qa hx2;refine cE [(9000,9000)] 0 (Qcz hx33) ?_;(conv=>whnf);obtain rfl:=sj_ hx2;exact ⟨_,rfl,leX []⟩
                              · (conv=>whnf);refine Qu hx2 (fun _ hx2=>?_) (fun _ hx2=>?_)
                                · (conv=>whnf);obtain ⟨x34,hx34,hx2⟩:=Qa hx2;refine QcU [6003] ?_;(conv=>whnf);refine cE [(9000,9000)] 2000 (Qdw hx34) ?_;(conv=>whnf);obtain rfl:=sj_ hx2;exact ⟨_,rfl,leX [.s [(6003,7001),(7001,6003)]]⟩
                                · (conv=>whnf);refine Qu hx2 (fun _ hx2=>?_) (fun _ hx2=>?_)
                                  · (conv=>whnf);refine QcT (enc:=Jz) ([-1,1000000,1000001]:List Int) ?_;(conv=>whnf);obtain ⟨x35,hx35,hx2⟩:=Qa hx2;refine cE [(9000,9000)] 0 (Qd hx35) ?_;(conv=>whnf);refine gdI hx2 (fun hx2=>?_);(conv=>whnf);obtain rfl:=sj_ hx2;exact ⟨_,rfl,leX []⟩
                                  · (conv=>whnf);refine Qu hx2 (fun _ hx2=>?_) (fun _ hx2=>?_)
                                    · (conv=>whnf);refine QcT (enc:=Jz) ([-1,0,1,6,7]:List Int) ?_;(conv=>whnf);obtain ⟨x37,hx37,hx2⟩:=Qa hx2;refine cE [(9000,9000)] 0 (Qd hx37) ?_;(conv=>whnf);refine gdI hx2 (fun hx2=>?_);(conv=>whnf);obtain rfl:=sj_ hx2;exact ⟨_,rfl,leX []⟩
                                    · (conv=>whnf);refine Qu hx2 (fun _ hx2=>?_) (fun _ hx2=>?_)
                                      · (conv=>whnf);obtain ⟨x39,hx39,hx2⟩:=Qa hx2;refine cE [(9000,9000)] 0 (Qd hx39) ?_;(conv=>whnf);obtain ⟨g40,hx2⟩:=Qg hx2;obtain ⟨g41,hx2⟩:=Qg hx2;refine QP tOk [] 12 [] [0,1,0,0,8,0,56,120,248,504,1023,2047] [4095] ?_;(conv=>whnf);refine And.intro g40 ?_;clear g40;(conv=>whnf);refine And.intro g41 ?_;clear g41;(conv=>whnf);refine And.intro (by kernel_rfl) ?_;(conv=>whnf);obtain ⟨x42,hx42,hlx42,hx2⟩:=QgC hx2;refine Qr8 (enc:=Qv4.enc) hx42 ?_;(conv=>whnf);obtain ⟨x43,hx43,hx2⟩:=Qa hx2;refine cE [(9000,9000)] 0 (Qd hx43) ?_;(conv=>whnf);refine Qu hx2 (fun _ hx2=>?_) (fun _ hx2=>?_)
                                        · (conv=>whnf);obtain ⟨g44,hx2⟩:=Qg hx2;obtain ⟨x45,hx45,hx2⟩:=Qa hx2;obtain ⟨g46,hx2⟩:=Qg hx2;refine JA tOk [.e 10 [(9000,.box 75 [.d (slD Qq a0.b),dI x43.2.p])] (.agg (hnC x45.1)) [] [(9000,.box 75 [.d (slD Qq a0.b),dI x45.2.p])]] 13 [] [0,1,0,0,0,16,0,112,240,496,1016,2047,4095] [8191] [9000] ?_;(conv=>whnf);refine And.intro g44 ?_;clear g44;(conv=>whnf);refine And.intro (eD [(9000,9000)] 0 (Qb6 hx45)) ?_;(conv=>whnf);refine And.intro g46 ?_;clear g46;(conv=>whnf);refine And.intro (by kernel_rfl) ?_;(conv=>whnf);refine ⟨rows Qv4.enc (x42.set x39.1.toNat (⟨x45.1,(x42.getD x39.1.toNat default).Stale⟩:Qv4)),Zd Qjk rfl,?_⟩;(conv=>whnf);obtain rfl:=sj_ hx2;exact ⟨_,rfl,leX []⟩
                                        · (conv=>whnf);obtain rfl:=sj_ hx2;exact ⟨_,rfl,leX []⟩
                                      · (conv=>whnf);obtain rfl:=sj_ hx2;exact ⟨_,rfl,leX []⟩
  · rintro _ rfl;(conv=>whnf);obtain rfl:=sj_ h;exact lfE [.s [(5001,6001),(5002,6002),(5003,6003),(5004,6004),(6001,5001),(6002,5002),(6003,5003),(6004,5004)]]
noncomputable def QbG (a0:Qv0) (a1:Qv8):Option (Qv8 × Qv0) :=
 bd (JJ a1) fun x1 =>
 bd (Qc a0 2) fun x2 =>
 bd (Qc (⟨a0.b,x2.2.p⟩:Qv0) 6) fun x3 =>
(if (x3.1 == 0)=true then
 gd ((0:Int)≤x2.1∧x2.1<((x1.Sides.length:Nat):Int)) <|
 gd ((0:Int)≤x2.1∧x2.1<((x1.Sides.length:Nat):Int)) <|
 bd (some (x1.Sides.set x2.1.toNat (⟨(!((x1.Sides.getD x2.1.toNat default).Up)),{ ((x1.Sides.getD x2.1.toNat default).End) with Under:=(⟨(((x1.Sides.getD x2.1.toNat default).End).Under).Kind,((((x1.Sides.getD x2.1.toNat default).End).Under).Entry)⟩:Qv3) }⟩:Qv6))) fun x6 =>
 some ((⟨x6,x1.Radio⟩:Qv8),(⟨a0.b,x3.2.p⟩:Qv0))
else
(if (x3.1 == 1)=true then
(if (decide (((x1.Radio.length:Nat):Int) > 0))=true then
 gd ((0:Int)≤0∧0<((x1.Radio.length:Nat):Int)) <|
 bd (Qap (⟨a0.b,x3.2.p⟩:Qv0) ({ (x1.Radio.getD 0 default) with Change:=(⟨((x1.Radio.getD 0 default).Change).Kind,(((x1.Radio.getD 0 default).Change).Entry)⟩:Qv3) })) fun x8 =>
 gd ((0:Int)≤0∧0<((x1.Radio.length:Nat):Int)) <|
 some ((⟨x1.Sides,x1.Radio.set 0 x8.1⟩:Qv8),(⟨a0.b,x8.2.p⟩:Qv0))
else
 some (x1,(⟨a0.b,x3.2.p⟩:Qv0)))
else
(if (x3.1 == 2)=true then
 bd (Qc (⟨a0.b,x3.2.p⟩:Qv0) 2) fun x10 =>
 bd (lp (σ:=List Qv7) (β:=((List Qv7) × Nat)) (fun s11 =>
(if (decide (((s11.length:Nat):Int)<(IntKind.i64.wrap (12+x10.1))))=true then
 gd (((s11.length)+(([(⟨0,0,1,1,0,1,0,0,(⟨0,(⟨0,0,0,0⟩:Qv2)⟩:Qv3),0⟩:Qv7)]:List Qv7).length))*(112+1)≤70368744177664) <|
 some (.inl (s11 ++ ([(⟨0,0,1,1,0,1,0,0,(⟨0,(⟨0,0,0,0⟩:Qv2)⟩:Qv3),0⟩:Qv7)]:List Qv7)))
else
 some (.inr (s11,s11.length)))) x1.Radio) fun x14 =>
 some ((⟨x1.Sides,x14.1⟩:Qv8),(⟨a0.b,x10.2.p⟩:Qv0))
else
(if (x3.1 == 3)=true then
 gd ((0:Int)≤0∧0<((x1.Sides.length:Nat):Int)) <|
 gd (((x1.Sides.length)+(([(⟨(x1.Sides.getD 0 default).Up,{ ((x1.Sides.getD 0 default).End) with Under:=(⟨(((x1.Sides.getD 0 default).End).Under).Kind,((((x1.Sides.getD 0 default).End).Under).Entry)⟩:Qv3) }⟩:Qv6)]:List Qv6).length))*(248+1)≤70368744177664) <|
 some ((⟨(x1.Sides ++ ([(⟨(x1.Sides.getD 0 default).Up,{ ((x1.Sides.getD 0 default).End) with Under:=(⟨(((x1.Sides.getD 0 default).End).Under).Kind,((((x1.Sides.getD 0 default).End).Under).Entry)⟩:Qv3) }⟩:Qv6)]:List Qv6)),x1.Radio⟩:Qv8),(⟨a0.b,x3.2.p⟩:Qv0))
else
 gd ((0:Int)≤x2.1∧x2.1<((x1.Sides.length:Nat):Int)) <|
 bd (QaD (⟨a0.b,x3.2.p⟩:Qv0) ({ ((x1.Sides.getD x2.1.toNat default).End) with Under:=(⟨(((x1.Sides.getD x2.1.toNat default).End).Under).Kind,((((x1.Sides.getD x2.1.toNat default).End).Under).Entry)⟩:Qv3) })) fun x20 =>
 gd ((0:Int)≤x2.1∧x2.1<((x1.Sides.length:Nat):Int)) <|
 some ((⟨x1.Sides.set x2.1.toNat (⟨(x1.Sides.getD x2.1.toNat default).Up,x20.1⟩:Qv6),x1.Radio⟩:Qv8),(⟨a0.b,x20.2.p⟩:Qv0))))))
theorem Qjr {a0:Qv0} {a1:Qv8} {r:Qv8 × Qv0} (h:QbG a0 a1=some r):EffC Tryz.prog 81 [.ref 9000 0 0,.agg [.d (slD Qv6.enc a1.Sides),.d (slD Qv7.enc a1.Radio)]] [(9000,.box 75 [.d (slD Qq a0.b),dI a0.p])] (.agg [.osl 5001 0 r.1.Sides.length,.osl 5002 0 r.1.Radio.length]) [(9000,.box 75 [.d (slD Qq a0.b),dI r.2.p]),(5001,.arr 38 23 r.1.Sides.length (rows Qv6.enc r.1.Sides)),(5002,.arr 42 14 r.1.Radio.length (rows Qv7.enc r.1.Radio))]:=by
  refine QQ tOk (fn:=Tryz.f81) (c:=Qj Tryz.f81) rfl rfl ?_;unfold QbG at h;(conv=>whnf);obtain ⟨x1,hx1,h⟩:=Qa h;refine cE [] 1000 (Qc2 hx1) ?_;(conv=>whnf);obtain ⟨x2,hx2,h⟩:=Qa h;refine cE [(9000,9000)] 0 (Qd hx2) ?_;(conv=>whnf);refine Qe tOk ?_;(conv=>whnf);obtain ⟨x3,hx3,h⟩:=Qa h;refine cE [(9000,9000)] 0 (Qd hx3) ?_;(conv=>whnf);refine Qu h (fun _ h=>?_) (fun _ h=>?_)
  · (conv=>whnf);obtain ⟨g4,h⟩:=Qg h;obtain ⟨g5,h⟩:=Qg h;refine QP tOk [] 12 [] [0,1,0,0,8,0,56,120,248,504,1023,2047] [4095] ?_;(conv=>whnf);refine And.intro g4 ?_;clear g4;(conv=>whnf);refine And.intro g5 ?_;clear g5;(conv=>whnf);refine And.intro (by kernel_rfl) ?_;(conv=>whnf);obtain ⟨x6,hx6,hlx6,h⟩:=QgC h;refine Qr8 (enc:=Qv6.enc) hx6 ?_;(conv=>whnf);obtain rfl:=sj_ h;exact lfE [.s [(5001,6001),(5002,6002),(6001,5001),(6002,5002)]]
  · (conv=>whnf);refine Qu h (fun _ h=>?_) (fun _ h=>?_)
    · (conv=>whnf);refine Qu h (fun _ h=>?_) (fun _ h=>?_)
      · (conv=>whnf);obtain ⟨g7,h⟩:=Qg h;obtain ⟨x8,hx8,h⟩:=Qa h;obtain ⟨g9,h⟩:=Qg h;refine JA tOk [.e 7 [(9000,.box 75 [.d (slD Qq a0.b),dI x3.2.p])] (.agg (hwC x8.1)) [] [(9000,.box 75 [.d (slD Qq a0.b),dI x8.2.p])]] 9 [] [0,1,0,0,8,24,56,124,255] [511] [9000] ?_;(conv=>whnf);refine And.intro g7 ?_;clear g7;(conv=>whnf);refine And.intro (eD [(9000,9000)] 0 (QgO hx8)) ?_;(conv=>whnf);refine And.intro g9 ?_;clear g9;(conv=>whnf);refine And.intro (by kernel_rfl) ?_;(conv=>whnf);refine ⟨rows Qv7.enc (x1.Radio.set 0 x8.1),Zd Qjk rfl,?_⟩;(conv=>whnf);obtain rfl:=sj_ h;exact lfE [.s [(5001,6001),(5002,6002),(6001,5001),(6002,5002)]]
      · (conv=>whnf);obtain rfl:=sj_ h;exact lfE [.s [(5001,6001),(5002,6002),(6001,5001),(6002,5002)]]
    · (conv=>whnf);refine Qu h (fun _ h=>?_) (fun _ h=>?_)
      · (conv=>whnf);obtain ⟨x10,hx10,h⟩:=Qa h;refine cE [(9000,9000)] 0 (Qd hx10) ?_;(conv=>whnf);obtain ⟨x14,hx14,h⟩:=Qa h;refine Zh tOk hx14 (fun s11=>⟨0,85,[(3,.ref 3 0 0),(4,.ref 4 0 0),(6,.ref 6 0 0),(7,dI (IntKind.i64.wrap (12+x10.1)))],[],[(6,.box 42 [dI 0,dI 0,dI 1,dI 1,dI 0,dI 1,dI 0,dI 0,dI 0,dI 0,dI 0,dI 0,dI 0,dI 0]),(6001,.arr 38 23 x1.Sides.length (rows Qv6.enc x1.Sides)),(6002,.arr 42 14 s11.length (rows Qv7.enc s11)),(4,.box 26 [.d (.nil),.d (.nil)]),(3,.box 26 [.osl 6001 0 x1.Sides.length,.osl 6002 0 s11.length]),(9000,.box 75 [.d (slD Qq a0.b),dI x10.2.p])],[⟨[(0,.ref 9000 0 0)],[]⟩]⟩) ?_ ?_
        · exact leX []
        · clear hx14;intro s11 y12 g13 hy12;(conv=>whnf);refine Qe tOk ?_;(conv=>whnf);refine Qu g13 (fun _ g13=>?_) (fun _ g13=>?_)
          · (conv=>whnf);refine QcT (enc:=Qv7.enc) ([(⟨0,0,1,1,0,1,0,0,(⟨0,(⟨0,0,0,0⟩:Qv2)⟩:Qv3),0⟩:Qv7)]:List Qv7) ?_;(conv=>whnf);refine gdI g13 (fun g13=>?_);refine Qh0 (enc:=Qv7.enc) (xs:=s11) (ys:=([(⟨0,0,1,1,0,1,0,0,(⟨0,(⟨0,0,0,0⟩:Qv2)⟩:Qv3),0⟩:Qv7)]:List Qv7)) ?_;(conv=>whnf);obtain rfl:=sj_ g13;exact ⟨_,rfl,leX []⟩
          · (conv=>whnf);obtain rfl:=sj_ g13;obtain rfl:=hy12 _ rfl;obtain rfl:=sj_ h;exact lfE [.s [(5001,6001),(5002,6002),(6001,5001),(6002,5002)]]
      · (conv=>whnf);refine Qu h (fun _ h=>?_) (fun _ h=>?_)
        · (conv=>whnf);obtain ⟨g17,h⟩:=Qg h;refine QP tOk [] 7 [] [0,1,0,4,12,28,60] [127,255,511] ?_;(conv=>whnf);refine And.intro g17 ?_;clear g17;(conv=>whnf);refine QcT (enc:=Qv6.enc) ([(⟨(x1.Sides.getD 0 default).Up,{ ((x1.Sides.getD 0 default).End) with Under:=(⟨(((x1.Sides.getD 0 default).End).Under).Kind,((((x1.Sides.getD 0 default).End).Under).Entry)⟩:Qv3) }⟩:Qv6)]:List Qv6) ?_;(conv=>whnf);refine And.intro (by kernel_rfl) ?_;(conv=>whnf);refine gdI h (fun h=>?_);refine Qh0 (enc:=Qv6.enc) (xs:=x1.Sides) (ys:=([(⟨(x1.Sides.getD 0 default).Up,{ ((x1.Sides.getD 0 default).End) with Under:=(⟨(((x1.Sides.getD 0 default).End).Under).Kind,((((x1.Sides.getD 0 default).End).Under).Entry)⟩:Qv3) }⟩:Qv6)]:List Qv6)) ?_;(conv=>whnf);obtain rfl:=sj_ h;exact lfE [.s [(5001,6001),(5002,6002),(6001,5001),(6002,5002)]]
        · (conv=>whnf);obtain ⟨g19,h⟩:=Qg h;obtain ⟨x20,hx20,h⟩:=Qa h;obtain ⟨g21,h⟩:=Qg h;refine JA tOk [.e 10 [(9000,.box 75 [.d (slD Qq a0.b),dI x3.2.p])] (.agg (dI x20.1.Name :: dI x20.1.Peer :: .osl 7001 0 x20.1.Keys.length :: dI x20.1.Boot :: .osl 7002 0 x20.1.Want.length :: dI x20.1.Turn :: dI x20.1.PeerBoot :: dI x20.1.PeerTurn :: dB x20.1.Up :: dI x20.1.Left :: dI x20.1.Num :: dI x20.1.Under.Kind :: hnC x20.1.Under.Entry ++ [.osl 7003 0 x20.1.Told.length,dB x20.1.All,dI x20.1.Got,dB x20.1.Full,.osl 7004 0 x20.1.Heard.length,dI x20.1.Keep])) [(7001,.arr 93 2 x20.1.Keys.length (rows Qv1.enc x20.1.Keys)),(7002,.arr 31 4 x20.1.Want.length (rows Qv2.enc x20.1.Want)),(7003,.arr 31 4 x20.1.Told.length (rows Qv2.enc x20.1.Told)),(7004,.arr 96 5 x20.1.Heard.length (rows Qv4.enc x20.1.Heard))] [(9000,.box 75 [.d (slD Qq a0.b),dI x20.2.p])]] 13 [] [0,1,0,0,0,16,0,112,240,496,1016,2047,4095] [8191] [9000] ?_;(conv=>whnf);refine And.intro g19 ?_;clear g19;(conv=>whnf);refine And.intro (eD [(9000,9000)] 2000 (Qhk hx20)) ?_;(conv=>whnf);refine And.intro g21 ?_;clear g21;(conv=>whnf);refine And.intro (by kernel_rfl) ?_;(conv=>whnf);refine ⟨rows Qv6.enc (x1.Sides.set x2.1.toNat (⟨(x1.Sides.getD x2.1.toNat default).Up,x20.1⟩:Qv6)),Zd Qjk rfl,?_⟩;(conv=>whnf);obtain rfl:=sj_ h;exact lfE [.s [(5001,6001),(5002,6002),(6001,5001),(6002,5002)]]
noncomputable def QdD (a0:Qv0):Option (Qv8 × Qv0) :=
 bd (Qc a0 50) fun x1 =>
 bd (Qcd (⟨a0.b,x1.2.p⟩:Qv0) x1.1) fun x2 =>
 bd (Qc (⟨a0.b,x2.2.p⟩:Qv0) 24) fun x3 =>
(if (x3.1 == 0)=true then
 bd (QbG (⟨a0.b,x3.2.p⟩:Qv0) x2.1) fun x4 =>
 some (x4.1,(⟨a0.b,x4.2.p⟩:Qv0))
else
 some (x2.1,(⟨a0.b,x3.2.p⟩:Qv0)))
theorem QlF {a0:Qv0} {r:Qv8 × Qv0} (h:QdD a0=some r):EffC Tryz.prog 43 [.ref 9000 0 0] [(9000,.box 75 [.d (slD Qq a0.b),dI a0.p])] (.agg [.osl 5001 0 r.1.Sides.length,.osl 5002 0 r.1.Radio.length]) [(9000,.box 75 [.d (slD Qq a0.b),dI r.2.p]),(5001,.arr 38 23 r.1.Sides.length (rows Qv6.enc r.1.Sides)),(5002,.arr 42 14 r.1.Radio.length (rows Qv7.enc r.1.Radio))]:=by
  refine QQ tOk (fn:=Tryz.f43) (c:=Qj Tryz.f43) rfl rfl ?_;unfold QdD at h;(conv=>whnf);obtain ⟨x1,hx1,h⟩:=Qa h;refine cE [(9000,9000)] 0 (Qd hx1) ?_;(conv=>whnf);obtain ⟨x2,hx2,h⟩:=Qa h;refine cE [(9000,9000)] 1000 (Qkv hx2) ?_;(conv=>whnf);refine Qe tOk ?_;(conv=>whnf);obtain ⟨x3,hx3,h⟩:=Qa h;refine cE [(9000,9000)] 0 (Qd hx3) ?_;(conv=>whnf);refine Qu h (fun _ h=>?_) (fun _ h=>?_)
  · (conv=>whnf);obtain ⟨x4,hx4,h⟩:=Qa h;refine QcU [6001,6002] ?_;(conv=>whnf);refine cE [(9000,9000)] 1000 (Qjr hx4) ?_;(conv=>whnf);obtain rfl:=sj_ h;exact lfE [.s [(5001,6001),(5002,6002),(6001,5001),(6002,5002)]]
  · (conv=>whnf);obtain rfl:=sj_ h;exact lfE [.s [(5001,6001),(5002,6002),(6001,5001),(6002,5002)]]
noncomputable def J7 (a0:(List Int)):Option (Qv8 × Int) :=
 bd (Qbj a0) fun x1 =>
 bd (QdD x1) fun x2 =>
 bd (Qc (⟨x1.b,x2.2.p⟩:Qv0) 7) fun x3 =>
 gd ((0:Int)≤x3.1∧x3.1<((([0,1,2,5,20,-1,40]:List Int).length:Nat):Int)) <|
 some (x2.1,(([0,1,2,5,20,-1,40]:List Int).getD x3.1.toNat default))
theorem Qgr {a0:(List Int)} {r:Qv8 × Int} (h:J7 a0=some r):EffC Tryz.prog 19 [.d (slD Qq a0)] [] (.tup [.agg [.osl 5001 0 r.1.Sides.length,.osl 5002 0 r.1.Radio.length],dI r.2]) [(5001,.arr 38 23 r.1.Sides.length (rows Qv6.enc r.1.Sides)),(5002,.arr 42 14 r.1.Radio.length (rows Qv7.enc r.1.Radio))]:=by
  refine QQ tOk (fn:=Tryz.f19) (c:=Qj Tryz.f19) rfl rfl ?_;unfold J7 at h;(conv=>whnf);obtain ⟨x1,hx1,h⟩:=Qa h;refine cE [] 1000 (Qkq hx1) ?_;(conv=>whnf);obtain ⟨x2,hx2,h⟩:=Qa h;refine cE [(9000,6001)] 2000 (QlF hx2) ?_;(conv=>whnf);obtain ⟨x3,hx3,h⟩:=Qa h;obtain ⟨g4,h⟩:=Qg h;refine JA tOk [.e 3 [(6001,.box 75 [.d (slD Qq x1.b),dI x2.2.p])] (dI x3.1) [] [(6001,.box 75 [.d (slD Qq x1.b),dI x3.2.p])],.a 6 [(2,.box 26 [.d (.nil),.d (.nil)])] (.any) [(2,.box 26 [.osl 7001 0 x2.1.Sides.length,.osl 7002 0 x2.1.Radio.length])]] 8 [] [0,0,0,4,14,30,13,127] [] [6001,2] ?_;(conv=>whnf);refine QcT (enc:=Jz) ([0,1,2,5,20,-1,40]:List Int) ?_;(conv=>whnf);refine And.intro (eD [(9000,6001)] 0 (Qd hx3)) ?_;(conv=>whnf);refine And.intro g4 ?_;clear g4;(conv=>whnf);refine And.intro (by (conv=>whnf); exact ⟨rfl,rfl⟩) ?_;(conv=>whnf);refine And.intro (by kernel_rfl) ?_;(conv=>whnf);obtain rfl:=sj_ h;exact lfE [.s [(5001,7001),(5002,7002),(7001,5001),(7002,5002)]]
noncomputable def Qw (a0:Int) (a1:Int) (a2:Int):Option (Bool) :=
 some ((decide (a1≤a0)) && (decide (a0≤a2)))
theorem Qz {a0:Int} {a1:Int} {a2:Int} {r:Bool} (h:Qw a0 a1 a2=some r):PureC Tryz.prog 49 [dI a0,dI a1,dI a2] (dB r) []:=by
  refine Qt tOk (fn:=Tryz.f49) (c:=Qj Tryz.f49) rfl rfl ?_;unfold Qw at h;(conv=>whnf);obtain rfl:=sj_ h;exact lfP []
noncomputable def Qr (a0:Qv2):Option (Qwa) :=
 some (⟨a0.Addr,a0.Len⟩:Qwa)
theorem Qy {a0:Qv2} {r:Qwa} (h:Qr a0=some r):PureC Tryz.prog 90 [.agg (hnC a0)] (.agg [dI r.Addr,dI r.Len]) []:=by
  refine Qt tOk (fn:=Tryz.f90) (c:=Qj Tryz.f90) rfl rfl ?_;unfold Qr at h;(conv=>whnf);obtain rfl:=sj_ h;exact lfP []
noncomputable def JP (a0:Qwa):Option (Int) :=
 gd ((0:Int)≤(IntKind.i64.wrap (16 - a0.Len))) <|
 some (IntKind.i64.wrap (1*2 ^ min (IntKind.i64.wrap (16 - a0.Len):Int).toNat IntKind.i64.bits))
theorem QfA {a0:Qwa} {r:Int} (h:JP a0=some r):PureC Tryz.prog 133 [.agg [dI a0.Addr,dI a0.Len]] (dI r) []:=by
  refine Qt tOk (fn:=Tryz.f133) (c:=Qj Tryz.f133) rfl rfl ?_;unfold JP at h;(conv=>whnf);refine gdI h (fun h=>?_);(conv=>whnf);obtain rfl:=sj_ h;exact lfP []
noncomputable def Qcv (a0:Qwa):Option (Bool) :=
 bd (Qw a0.Len 0 16) fun x1 =>
 bd (gcall (x1=true) (Qw a0.Addr 0 65535)) fun x2 =>
 bd (gcall ((x1 && x2)=true) (JP a0)) fun x3 =>
 gd ((x1 && x2)=true→((x3:Int) ≠ 0)) <|
 some ((x1 && x2) && (((a0.Addr:Int).tmod x3) == 0))
theorem QiC {a0:Qwa} {r:Bool} (h:Qcv a0=some r):PureC Tryz.prog 89 [.agg [dI a0.Addr,dI a0.Len]] (dB r) []:=by
  refine Qt tOk (fn:=Tryz.f89) (c:=Qj Tryz.f89) rfl rfl ?_;unfold Qcv at h;(conv=>whnf);obtain ⟨x1,hx1,h⟩:=Qa h;obtain ⟨x2,hx2,h⟩:=Qa h;obtain ⟨x3,hx3,h⟩:=Qa h;obtain ⟨g4,h⟩:=Qg h;refine QP tOk [.u 2 0 (dB x1) [],.u 6 0 (dB x2) [],.u 12 0 (dI x3) []] 17 [] [0,1,3,7,15,31,63,127,255,511,1023,511,2559,8191,16383,32767,65535] [] ?_;(conv=>whnf);refine And.intro (QM (Qz hx1) (by kernel_rfl)) ?_;(conv=>whnf);refine And.intro (Q1 rfl rfl rfl rfl (by intro c0; exact Qz (Qf hx2 c0))) ?_;(conv=>whnf);refine And.intro (Q1 rfl rfl rfl rfl (by intro c0; exact QfA (Qf hx3 c0))) ?_;(conv=>whnf);refine And.intro g4 ?_;clear g4;(conv=>whnf);refine And.intro (by kernel_rfl) ?_;(conv=>whnf);obtain rfl:=sj_ h;exact lfP []
noncomputable def ZX (a0:Qv2):Option (Bool) :=
 bd (Qr a0) fun x1 =>
 bd (Qcv x1) fun x2 =>
 bd (gcall (x2=true) (Qw a0.Cost 1 255)) fun x3 =>
 bd (gcall ((x2 && x3)=true) (Qw a0.Label 0 1000)) fun x4 =>
 some ((x2 && x3) && x4)
theorem Qb7 {a0:Qv2} {r:Bool} (h:ZX a0=some r):PureC Tryz.prog 88 [.agg (hnC a0)] (dB r) []:=by
  refine Qt tOk (fn:=Tryz.f88) (c:=Qj Tryz.f88) rfl rfl ?_;unfold ZX at h;(conv=>whnf);obtain ⟨x1,hx1,h⟩:=Qa h;refine cC 0 (Qy hx1) ?_;clear hx1;(conv=>whnf);obtain ⟨x2,hx2,h⟩:=Qa h;refine cC 0 (QiC hx2) ?_;clear hx2;(conv=>whnf);obtain ⟨x3,hx3,h⟩:=Qa h;refine cG (fun c0=>Qz (Qf hx3 c0)) ?_;(conv=>whnf);obtain ⟨x4,hx4,h⟩:=Qa h;refine cG (fun c0=>Qz (Qf hx4 c0)) ?_;(conv=>whnf);obtain rfl:=sj_ h;exact lfP []
noncomputable def Jc (a0:Qv3):Option (Bool) :=
 bd (α:=Bool) ((if (a0.Kind == 0)=true then
 some (a0.Kind == 0)
else
 some (a0.Kind == 3))) fun x1 =>
(if x1=true then
 some ((a0.Entry.Addr == 0) && ((a0.Entry.Len == 0) && ((a0.Entry.Cost == 0) && ((a0.Entry.Label == 0) && true))))
else
(if (a0.Kind == 1)=true then
 bd (ZX a0.Entry) fun x4 =>
 some x4
else
(if (a0.Kind == 2)=true then
 bd (Qr a0.Entry) fun x5 =>
 bd (Qcv x5) fun x6 =>
 some ((x6 && (a0.Entry.Cost == 0)) && (a0.Entry.Label == 0))
else
 some false)))
theorem Qda {a0:Qv3} {r:Bool} (h:Jc a0=some r):PureC Tryz.prog 52 [.agg (dI a0.Kind :: hnC a0.Entry)] (dB r) []:=by
  refine Qt tOk (fn:=Tryz.f52) (c:=Qj Tryz.f52) rfl rfl ?_;unfold Jc at h;(conv=>whnf);refine Qe tOk ?_;(conv=>whnf);obtain ⟨x1,hx1,h⟩:=Qa h;refine Ji tOk (fun s2=>⟨0,35,[(1,.ref 1 0 0),(4,dI a0.Kind),(5,dB s2)],[],[(1,.box 33 (dI a0.Kind :: hnC a0.Entry))],[]⟩) (fun s2=>x1=s2) ?_ ?_
  · (conv=>whnf);refine Qu hx1 (fun _ hx1=>?_) (fun _ hx1=>?_)
    · (conv=>whnf);obtain rfl:=sj_ hx1;exact ⟨_,rfl,leX []⟩
    · (conv=>whnf);obtain rfl:=sj_ hx1;exact ⟨_,rfl,leX []⟩
  · rintro _ rfl;(conv=>whnf);refine Qu h (fun _ h=>?_) (fun _ h=>?_)
    · (conv=>whnf);obtain rfl:=sj_ h;exact lfP []
    · (conv=>whnf);refine Qu h (fun _ h=>?_) (fun _ h=>?_)
      · (conv=>whnf);obtain ⟨x4,hx4,h⟩:=Qa h;refine cC 0 (Qb7 hx4) ?_;clear hx4;(conv=>whnf);obtain rfl:=sj_ h;exact lfP []
      · (conv=>whnf);refine Qu h (fun _ h=>?_) (fun _ h=>?_)
        · (conv=>whnf);obtain ⟨x5,hx5,h⟩:=Qa h;refine cC 0 (Qy hx5) ?_;clear hx5;(conv=>whnf);obtain ⟨x6,hx6,h⟩:=Qa h;refine cC 0 (QiC hx6) ?_;clear hx6;(conv=>whnf);obtain rfl:=sj_ h;exact lfP []
        · (conv=>whnf);obtain rfl:=sj_ h;exact lfP []
noncomputable def Jn (a0:Qv7):Option (Bool) :=
 bd (Qw a0.From 0 65535) fun x1 =>
 bd (gcall ((!x1)=false) (Qw a0.To 0 65535)) fun x2 =>
 bd (gcall (((!x1) || (!x2))=false) (Qw a0.Key 1 9)) fun x3 =>
(if (((!x1) || (!x2)) || (!x3))=true then
 some false
else
 bd (Qw a0.Boot 1 999) fun x4 =>
 bd (gcall ((!x4)=false) (Qw a0.Yours 0 999)) fun x5 =>
 bd (gcall (((!x4) || (!x5))=false) (Qw a0.Turn 1 1000000)) fun x6 =>
(if (((!x4) || (!x5)) || (!x6))=true then
 some false
else
 bd (Qw a0.Num 0 a0.Turn) fun x7 =>
 bd (gcall ((!x7)=false) (Qw a0.Heard 0 1000000)) fun x8 =>
 bd (gcall (((!x7) || (!x8))=false) (Qw a0.Sum 0 2147483646)) fun x9 =>
(if (((!x7) || (!x8)) || (!x9))=true then
 some false
else
 bd (Jc a0.Change) fun x10 =>
 some (x10 && ((a0.Change.Kind == 0) || (decide (a0.Num > 0)))))))
theorem QcE {a0:Qv7} {r:Bool} (h:Jn a0=some r):PureC Tryz.prog 27 [.agg (hwC a0)] (dB r) []:=by
  refine Qt tOk (fn:=Tryz.f27) (c:=Qj Tryz.f27) rfl rfl ?_;unfold Jn at h;(conv=>whnf);refine Qe tOk ?_;(conv=>whnf);obtain ⟨x1,hx1,h⟩:=Qa h;refine cC 0 (Qz hx1) ?_;clear hx1;(conv=>whnf);obtain ⟨x2,hx2,h⟩:=Qa h;refine cG (fun c0=>Qz (Qf hx2 c0)) ?_;(conv=>whnf);obtain ⟨x3,hx3,h⟩:=Qa h;refine cG (fun c0=>Qz (Qf hx3 c0)) ?_;(conv=>whnf);refine Qu h (fun _ h=>?_) (fun _ h=>?_)
  · (conv=>whnf);obtain rfl:=sj_ h;exact lfP []
  · (conv=>whnf);obtain ⟨x4,hx4,h⟩:=Qa h;refine cC 0 (Qz hx4) ?_;clear hx4;(conv=>whnf);obtain ⟨x5,hx5,h⟩:=Qa h;refine cG (fun c0=>Qz (Qf hx5 c0)) ?_;(conv=>whnf);obtain ⟨x6,hx6,h⟩:=Qa h;refine cG (fun c0=>Qz (Qf hx6 c0)) ?_;(conv=>whnf);refine Qu h (fun _ h=>?_) (fun _ h=>?_)
    · (conv=>whnf);obtain rfl:=sj_ h;exact lfP []
    · (conv=>whnf);obtain ⟨x7,hx7,h⟩:=Qa h;refine cC 0 (Qz hx7) ?_;clear hx7;(conv=>whnf);obtain ⟨x8,hx8,h⟩:=Qa h;refine cG (fun c0=>Qz (Qf hx8 c0)) ?_;(conv=>whnf);obtain ⟨x9,hx9,h⟩:=Qa h;refine cG (fun c0=>Qz (Qf hx9 c0)) ?_;(conv=>whnf);refine Qu h (fun _ h=>?_) (fun _ h=>?_)
      · (conv=>whnf);obtain rfl:=sj_ h;exact lfP []
      · (conv=>whnf);obtain ⟨x10,hx10,h⟩:=Qa h;refine cC 0 (Qda hx10) ?_;clear hx10;(conv=>whnf);obtain rfl:=sj_ h;exact lfP []
noncomputable def Z3 (a0:(List Qv1)):Option (Bool) :=
 bd (lp (σ:=Int) (β:=(Unit ⊕ Unit)) (fun s1 =>
(if (decide (s1<((a0.length:Nat):Int)))=true then
 gd ((0:Int)≤s1∧s1<((a0.length:Nat):Int)) <|
 bd (Qw ((a0.getD s1.toNat default).Id) 1 9) fun x6 =>
 bd (gcall ((!x6)=false) (Qw ((a0.getD s1.toNat default).Secret) 1 2147483646)) fun x7 =>
 gd ((decide (s1 > 0))=true→(((!x6) || (!x7))=false→((0:Int)≤IntKind.i64.wrap (s1 - 1)∧IntKind.i64.wrap (s1 - 1)<((a0.length:Nat):Int)))) <|
(if (((!x6) || (!x7)) || ((decide (s1 > 0)) && (decide (((a0.getD ((IntKind.i64.wrap (s1 - 1)).toNat) default).Id) ≥ ((a0.getD s1.toNat default).Id)))))=true then
 some (.inr (.inl ()))
else
 some (.inl (IntKind.i64.wrap (s1+1))))
else
 some (.inr (.inr ())))) 0) fun x4 =>
(match x4 with
| .inl d9 =>
 some false
| .inr d10 =>
 bd (Qw ((a0.length:Nat):Int) 1 3) fun x11 =>
 some x11)
theorem Qbu {a0:(List Qv1)} {r:Bool} (h:Z3 a0=some r):PureC Tryz.prog 62 [.d (slD Qv1.enc a0)] (dB r) []:=by
  refine Qt tOk (fn:=Tryz.f62) (c:=Qj Tryz.f62) rfl rfl ?_;unfold Z3 at h;(conv=>whnf);refine Qe tOk ?_;(conv=>whnf);obtain ⟨x4,hx4,h⟩:=Qa h;refine Zh tOk hx4 (fun s1=>⟨0,41,[(0,.d (slD Qv1.enc a0)),(5,.d (slD Qv1.enc a0)),(6,dI ((a0.length:Nat):Int)),(7,dI s1)],[],[],[]⟩) ?_ ?_
  · exact leX []
  · clear hx4;intro s1 y2 g3 hy2;(conv=>whnf);refine Qe tOk ?_;(conv=>whnf);refine Qu g3 (fun _ g3=>?_) (fun _ g3=>?_)
    · (conv=>whnf);refine Qe tOk ?_;(conv=>whnf);refine gdI g3 (fun g3=>?_);(conv=>whnf);obtain ⟨x6,hx6,g3⟩:=Qa g3;obtain ⟨x7,hx7,g3⟩:=Qa g3;obtain ⟨g8,g3⟩:=Qg g3;refine QP tOk [.u 2 0 (dB x6) [],.u 7 0 (dB x7) []] 25 [] [0,1,3,7,15,31,63,127,255,511,1023,2047,4095,8191,16383,16383,49151,131071,262143,524287,16383,1064959,4194303,8388607,16777215] [] ?_;(conv=>whnf);refine And.intro (QM (Qz hx6) (by kernel_rfl)) ?_;(conv=>whnf);refine And.intro (Q1 rfl rfl rfl rfl (by intro c0; exact Qz (Qf hx7 c0))) ?_;(conv=>whnf);refine And.intro g8 ?_;clear g8;(conv=>whnf);refine And.intro (by kernel_rfl) ?_;(conv=>whnf);refine Qu g3 (fun _ g3=>?_) (fun _ g3=>?_)
      · (conv=>whnf);obtain rfl:=sj_ g3;obtain rfl:=hy2 _ rfl;obtain rfl:=sj_ h;exact lfP []
      · (conv=>whnf);obtain rfl:=sj_ g3;exact ⟨_,rfl,leX []⟩
    · (conv=>whnf);obtain rfl:=sj_ g3;obtain rfl:=hy2 _ rfl;obtain ⟨x11,hx11,h⟩:=Qa h;refine cC 0 (Qz hx11) ?_;clear hx11;(conv=>whnf);obtain rfl:=sj_ h;exact lfP []
noncomputable def Zz (a0:Qwa) (a1:Qwa):Option (Int) :=
(if (a0.Addr != a1.Addr)=true then
 some (IntKind.i64.wrap (a0.Addr - a1.Addr))
else
 some (IntKind.i64.wrap (a0.Len - a1.Len)))
theorem QaP {a0:Qwa} {a1:Qwa} {r:Int} (h:Zz a0 a1=some r):PureC Tryz.prog 99 [.agg [dI a0.Addr,dI a0.Len],.agg [dI a1.Addr,dI a1.Len]] (dI r) []:=by
  refine Qt tOk (fn:=Tryz.f99) (c:=Qj Tryz.f99) rfl rfl ?_;unfold Zz at h;(conv=>whnf);refine Qe tOk ?_;(conv=>whnf);refine Qu h (fun _ h=>?_) (fun _ h=>?_)
  · (conv=>whnf);obtain rfl:=sj_ h;exact lfP []
  · (conv=>whnf);obtain rfl:=sj_ h;exact lfP []
noncomputable def Zs (a0:(List Qv2)):Option (Bool) :=
 bd (lp (σ:=Int) (β:=(Unit ⊕ Unit)) (fun s1 =>
(if (decide (s1<((a0.length:Nat):Int)))=true then
 gd ((0:Int)≤s1∧s1<((a0.length:Nat):Int)) <|
 bd (ZX (a0.getD s1.toNat default)) fun x6 =>
 gd ((decide (s1 > 0))=true→((!x6)=false→((0:Int)≤IntKind.i64.wrap (s1 - 1)∧IntKind.i64.wrap (s1 - 1)<((a0.length:Nat):Int)))) <|
 bd (gcall ((decide (s1 > 0))=true∧(!x6)=false) (Qr (a0.getD ((IntKind.i64.wrap (s1 - 1)).toNat) default))) fun x8 =>
 bd (gcall ((decide (s1 > 0))=true∧(!x6)=false) (Qr (a0.getD s1.toNat default))) fun x9 =>
 bd (gcall ((decide (s1 > 0))=true∧(!x6)=false) (Zz x8 x9)) fun x10 =>
(if ((!x6) || ((decide (s1 > 0)) && (decide (x10 ≥ 0))))=true then
 some (.inr (.inl ()))
else
 some (.inl (IntKind.i64.wrap (s1+1))))
else
 some (.inr (.inr ())))) 0) fun x4 =>
(match x4 with
| .inl d11 =>
 some false
| .inr d12 =>
 some (decide (((a0.length:Nat):Int)≤8)))
theorem Qar {a0:(List Qv2)} {r:Bool} (h:Zs a0=some r):PureC Tryz.prog 60 [.d (slD Qv2.enc a0)] (dB r) []:=by
  refine Qt tOk (fn:=Tryz.f60) (c:=Qj Tryz.f60) rfl rfl ?_;unfold Zs at h;(conv=>whnf);refine Qe tOk ?_;(conv=>whnf);obtain ⟨x4,hx4,h⟩:=Qa h;refine Zh tOk hx4 (fun s1=>⟨0,35,[(0,.d (slD Qv2.enc a0)),(5,.d (slD Qv2.enc a0)),(6,dI ((a0.length:Nat):Int)),(7,dI s1)],[],[],[]⟩) ?_ ?_
  · exact leX []
  · clear hx4;intro s1 y2 g3 hy2;(conv=>whnf);refine Qe tOk ?_;(conv=>whnf);refine Qu g3 (fun _ g3=>?_) (fun _ g3=>?_)
    · (conv=>whnf);refine Qe tOk ?_;(conv=>whnf);refine gdI g3 (fun g3=>?_);(conv=>whnf);obtain ⟨x6,hx6,g3⟩:=Qa g3;obtain ⟨g7,g3⟩:=Qg g3;obtain ⟨x8,hx8,g3⟩:=Qa g3;obtain ⟨x9,hx9,g3⟩:=Qa g3;obtain ⟨x10,hx10,g3⟩:=Qa g3;refine QP tOk [.u 1 0 (dB x6) [],.u 12 0 (.agg [dI x8.Addr,dI x8.Len]) [],.u 14 0 (.agg [dI x9.Addr,dI x9.Len]) [],.u 15 0 (dI x10) []] 19 [] [0,1,3,7,15,31,63,127,127,383,1023,2047,4095,127,16383,32767,65535,131071,262143] [] ?_;(conv=>whnf);refine And.intro (QM (Qb7 hx6) (by kernel_rfl)) ?_;(conv=>whnf);refine And.intro g7 ?_;clear g7;(conv=>whnf);refine And.intro (Q1 rfl rfl rfl rfl (by intro c0 c1; exact Qy (Qf hx8 ⟨c0,c1⟩))) ?_;(conv=>whnf);refine And.intro (Q1 rfl rfl rfl rfl (by intro c0 c1; exact Qy (Qf hx9 ⟨c0,c1⟩))) ?_;(conv=>whnf);refine And.intro (Q1 rfl rfl rfl rfl (by intro c0 c1; exact QaP (Qf hx10 ⟨c0,c1⟩))) ?_;(conv=>whnf);refine And.intro (by kernel_rfl) ?_;(conv=>whnf);refine Qu g3 (fun _ g3=>?_) (fun _ g3=>?_)
      · (conv=>whnf);obtain rfl:=sj_ g3;obtain rfl:=hy2 _ rfl;obtain rfl:=sj_ h;exact lfP []
      · (conv=>whnf);obtain rfl:=sj_ g3;exact ⟨_,rfl,leX []⟩
    · (conv=>whnf);obtain rfl:=sj_ g3;obtain rfl:=hy2 _ rfl;obtain rfl:=sj_ h;exact lfP []
noncomputable def QF (a0:(List Qv2)):Option ((List Qv2)) :=
 gd ((0:Int)≤0∧0≤((a0.length:Nat):Int)∧((a0.length:Nat):Int)*32≤140737488355328∧((a0.length:Nat):Int)≤140737488355328) <|
 gd ((((List.replicate (0:Int).toNat (default:Qv2)).length)+(a0.length))*(32+1)≤70368744177664) <|
 some ((List.replicate (0:Int).toNat (default:Qv2)) ++ a0)
theorem Zt {a0:(List Qv2)} {r:(List Qv2)} (h:QF a0=some r):PureC Tryz.prog 61 [.d (slD Qv2.enc a0)] (.osl 5001 0 r.length) [⟨5001,31,4,r.length,rows Qv2.enc r⟩]:=by
  refine Qt tOk (fn:=Tryz.f61) (c:=Qj Tryz.f61) rfl rfl ?_;unfold QF at h;(conv=>whnf);obtain ⟨g2,h⟩:=Qg h;refine And.intro g2 ?_;clear g2;refine ⟨(List.replicate (0:Int).toNat (default:Qv2)).length,rows Qv2.enc (List.replicate (0:Int).toNat (default:Qv2)),by simp,Qhl rfl,?_⟩;(conv=>whnf);refine gdI h (fun h=>?_);refine Qh0 (enc:=Qv2.enc) (xs:=(List.replicate (0:Int).toNat (default:Qv2))) (ys:=a0) ?_;(conv=>whnf);obtain rfl:=sj_ h;exact lfP [.s [(5,5001),(5001,5)]]
noncomputable def J1 (a0:Qv2) (a1:Qwa):Option (Int) :=
 bd (Qr a0) fun x1 =>
 bd (Zz x1 a1) fun x2 =>
 some x2
theorem Qea {a0:Qv2} {a1:Qwa} {r:Int} (h:J1 a0 a1=some r):PureC Tryz.prog 139 [.agg (hnC a0),.agg [dI a1.Addr,dI a1.Len]] (dI r) []:=by
  refine Qt tOk (fn:=Tryz.f139) (c:=Qj Tryz.f139) rfl rfl ?_;unfold J1 at h;(conv=>whnf);obtain ⟨x1,hx1,h⟩:=Qa h;obtain ⟨x2,hx2,h⟩:=Qa h;refine QP tOk [.u 1 0 (.agg [dI x1.Addr,dI x1.Len]) [],.u 3 0 (dI x2) []] 5 [] [0,1,0,7,15] [] ?_;(conv=>whnf);refine And.intro (QM (Qy hx1) (by kernel_rfl)) ?_;(conv=>whnf);refine And.intro (QM (QaP hx2) (by kernel_rfl)) ?_;(conv=>whnf);refine And.intro (by kernel_rfl) ?_;(conv=>whnf);obtain rfl:=sj_ h;exact lfP []
noncomputable def Qm (a0:(List Qv2)) (a1:Qwa):Option (Int × Bool) :=
 bd (lp (σ:=Int × Int) (β:=(Int)) (fun s1 =>
(if (decide (s1.2<s1.1))=true then
 gd ((0:Int)≤1) <|
 gd ((0:Int)≤IntKind.i64.wrap ((IntKind.u64.wrap (IntKind.i64.wrap (s1.2+s1.1)):Int).fdiv (2 ^ min (1:Int).toNat IntKind.u64.bits))∧IntKind.i64.wrap ((IntKind.u64.wrap (IntKind.i64.wrap (s1.2+s1.1)):Int).fdiv (2 ^ min (1:Int).toNat IntKind.u64.bits))<((a0.length:Nat):Int)) <|
 bd (J1 (a0.getD ((IntKind.i64.wrap ((IntKind.u64.wrap (IntKind.i64.wrap (s1.2+s1.1)):Int).fdiv (2 ^ min (1:Int).toNat IntKind.u64.bits))).toNat) default) a1) fun x7 =>
(if (decide (x7<0))=true then
 some (.inl (s1.1,IntKind.i64.wrap ((IntKind.i64.wrap ((IntKind.u64.wrap (IntKind.i64.wrap (s1.2+s1.1)):Int).fdiv (2 ^ min (1:Int).toNat IntKind.u64.bits)))+1)))
else
 some (.inl (IntKind.i64.wrap ((IntKind.u64.wrap (IntKind.i64.wrap (s1.2+s1.1)):Int).fdiv (2 ^ min (1:Int).toNat IntKind.u64.bits)),s1.2)))
else
 some (.inr s1.2))) (((a0.length:Nat):Int),0)) fun x4 =>
 gd ((decide (x4<((a0.length:Nat):Int)))=true→((0:Int)≤x4∧x4<((a0.length:Nat):Int))) <|
 bd (gcall ((decide (x4<((a0.length:Nat):Int)))=true) (J1 (a0.getD x4.toNat default) a1)) fun x10 =>
 some (x4,((decide (x4<((a0.length:Nat):Int))) && (x10 == 0)))
theorem ZN {a0:(List Qv2)} {a1:Qwa} {r:Int × Bool} (h:Qm a0 a1=some r):PureC Tryz.prog 138 [.d (slD Qv2.enc a0),.agg [dI a1.Addr,dI a1.Len],.fn 139 []] (.tup [dI r.1,dB r.2]) []:=by
  refine Qt tOk (fn:=Tryz.f138) (c:=Qj Tryz.f138) rfl rfl ?_;unfold Qm at h;(conv=>whnf);refine Qe tOk ?_;(conv=>whnf);obtain ⟨x4,hx4,h⟩:=Qa h;refine Zh tOk hx4 (fun s1=>⟨0,49,[(0,.d (slD Qv2.enc a0)),(2,.fn 139 []),(4,.ref 4 0 0),(8,dI ((a0.length:Nat):Int)),(9,dI s1.2),(10,dI s1.1)],[],[(4,.box 112 [dI a1.Addr,dI a1.Len])],[]⟩) ?_ ?_
  · exact leX []
  · clear hx4;intro s1 y2 g3 hy2;(conv=>whnf);refine Qe tOk ?_;(conv=>whnf);refine Qu g3 (fun _ g3=>?_) (fun _ g3=>?_)
    · (conv=>whnf);refine gdI g3 (fun g3=>?_);(conv=>whnf);obtain ⟨g6,g3⟩:=Qg g3;obtain ⟨x7,hx7,g3⟩:=Qa g3;refine QP tOk [.u 6 0 (dI x7) []] 8 [] [0,0,0,6,14,0,63,127] [] ?_;(conv=>whnf);refine And.intro g6 ?_;clear g6;(conv=>whnf);refine And.intro (QM (Qea hx7) (by kernel_rfl)) ?_;(conv=>whnf);refine And.intro (by kernel_rfl) ?_;(conv=>whnf);refine Qu g3 (fun _ g3=>?_) (fun _ g3=>?_)
      · (conv=>whnf);obtain rfl:=sj_ g3;exact ⟨_,rfl,leX []⟩
      · (conv=>whnf);obtain rfl:=sj_ g3;exact ⟨_,rfl,leX []⟩
    · (conv=>whnf);obtain rfl:=sj_ g3;obtain rfl:=hy2 _ rfl;obtain ⟨g9,h⟩:=Qg h;obtain ⟨x10,hx10,h⟩:=Qa h;refine QP tOk [.u 11 0 (dI x10) []] 16 [] [0,0,0,6,14,30,30,30,222,478,30,2046,4094,8190,4095,32767] [] ?_;(conv=>whnf);refine And.intro g9 ?_;clear g9;(conv=>whnf);refine And.intro (Q1 rfl rfl rfl rfl (by intro c0; exact Qea (Qf hx10 c0))) ?_;(conv=>whnf);refine And.intro (by kernel_rfl) ?_;(conv=>whnf);obtain rfl:=sj_ h;exact lfP []
noncomputable def J4 (a0:(List Qv2)) (a1:Qwa):Option (Int × Bool) :=
 bd (Qm a0 a1) fun x1 =>
 some (x1.1,x1.2)
theorem Qdq {a0:(List Qv2)} {a1:Qwa} {r:Int × Bool} (h:J4 a0 a1=some r):PureC Tryz.prog 101 [.d (slD Qv2.enc a0),.agg [dI a1.Addr,dI a1.Len]] (.tup [dI r.1,dB r.2]) []:=by
  refine Qt tOk (fn:=Tryz.f101) (c:=Qj Tryz.f101) rfl rfl ?_;unfold J4 at h;(conv=>whnf);obtain ⟨x1,hx1,h⟩:=Qa h;refine cC 0 (ZN hx1) ?_;clear hx1;(conv=>whnf);obtain rfl:=sj_ h;exact lfP []
noncomputable def QX (a0:(List Qv2)) (a1:Int) (a2:(List Qv2)):Option ((List Qv2)) :=
 gd ((0≤a1∧a1≤a0.length)∧0<a2.length∧(a0.length+a2.length)*(32+1)≤70368744177664) <|
 some (Qov a0 a1.toNat a2)
theorem J8 {a0:(List Qv2)} {a1:Int} {a2:(List Qv2)} {r:(List Qv2)} (h:QX a0 a1 a2=some r):EffC Tryz.prog 102 [.osl 9000 0 a0.length,dI a1,.osl 9001 0 a2.length] [(9000,.arr 31 4 a0.length (rows Qv2.enc a0)),(9001,.arr 31 4 a2.length (rows Qv2.enc a2))] (.osl 5001 0 r.length) [(5001,.arr 31 4 r.length (rows Qv2.enc r))]:=by
  unfold QX at h;have L:LIns Tryz.prog ⟨fun x=>match x with | 22=>102 | 29=>140 | 30=>141 | _=>0,fun x=>match x with | 0=>0 | 3=>3 | 4=>4 | 9=>31 | 24=>29 | _=>0,fun x=>x⟩ 4 32 (.agg #[.int .i64 0,.int .i64 0,.int .i64 0,.int .i64 0]):=⟨by kernel_rfl,⟨Tryz.f102.name,by kernel_rfl,by kernel_rfl⟩,⟨Tryz.f140,by kernel_rfl,by kernel_rfl,by kernel_rfl,by kernel_rfl,by kernel_rfl⟩,by kernel_rfl,fun w=>by kernel_rfl,fun w=>by kernel_rfl,fun w=>by kernel_rfl,by kernel_rfl,fun w=>by kernel_rfl,fun w=>by kernel_rfl,fun w=>by kernel_rfl,by kernel_rfl,fun w=>by kernel_rfl,fun w=>by kernel_rfl,fun w=>by kernel_rfl,by kernel_rfl,fun w=>by kernel_rfl,fun w=>by kernel_rfl,fun w=>by kernel_rfl,⟨_,rfl,rfl,rfl,rfl⟩,fun w=>by kernel_rfl,by kernel_rfl,fun u hu=>List.all_eq_true.1 (by kernel_rfl:(List.all (Value.cells (.agg #[.int .i64 0,.int .i64 0,.int .i64 0,.int .i64 0])).toList Value.oneCell')=true) u hu,by decide⟩;obtain ⟨g,h⟩:=Qg h;obtain rfl:=sj_ h;have k:=Qow (t:=31) (enc:=Qv2.enc) L (Qqy (fn:=Tryz.f102) (c:=Qj Tryz.f102) rfl rfl (by kernel_rfl)) (fun _=>rfl) (xs:=a0) (ys:=a2) (i:=a1.toNat) (by omega) g.2.1 g.2.2;rw [show ((a1.toNat:Nat):Int)=a1 by omega] at k;exact k
noncomputable def QY (a0:(List Qv2)) (a1:Int) (a2:Int):Option ((List Qv2)) :=
 gd (0≤a1∧a1≤a2∧a2≤a0.length) <|
 some (Qjs a0 a1.toNat a2.toNat)
theorem J9 {a0:(List Qv2)} {a1:Int} {a2:Int} {r:(List Qv2)} (h:QY a0 a1 a2=some r):EffC Tryz.prog 103 [.osl 9000 0 a0.length,dI a1,dI a2] [(9000,.arr 31 4 a0.length (rows Qv2.enc a0))] (.osl 5001 0 r.length) [(5001,.arr 31 4 r.length (rows Qv2.enc r))]:=by
  unfold QY at h;have L:LDel Tryz.prog ⟨fun x=>match x with | 45=>103 | _=>0,fun x=>match x with | 0=>0 | 3=>3 | 4=>4 | 22=>29 | 23=>31 | _=>0,fun x=>x⟩ 4 (.agg #[.int .i64 0,.int .i64 0,.int .i64 0,.int .i64 0]):=⟨by kernel_rfl,⟨Tryz.f103.name,by kernel_rfl,by kernel_rfl⟩,by kernel_rfl,fun w=>by kernel_rfl,fun w=>by kernel_rfl,fun w=>by kernel_rfl,by kernel_rfl,fun w=>by kernel_rfl,fun w=>by kernel_rfl,fun w=>by kernel_rfl,by kernel_rfl,fun w=>by kernel_rfl,fun w=>by kernel_rfl,fun w=>by kernel_rfl,by kernel_rfl,fun w=>by kernel_rfl,fun w=>by kernel_rfl,fun w=>by kernel_rfl,⟨_,rfl,rfl⟩,fun w=>by kernel_rfl,fun w=>by kernel_rfl,by kernel_rfl,fun u hu=>List.all_eq_true.1 (by kernel_rfl:(List.all (Value.cells (.agg #[.int .i64 0,.int .i64 0,.int .i64 0,.int .i64 0])).toList Value.oneCell')=true) u hu⟩;obtain ⟨g,h⟩:=Qg h;obtain rfl:=sj_ h;have k:=QlG (t:=31) (enc:=Qv2.enc) L (Qqy (fn:=Tryz.f103) (c:=Qj Tryz.f103) rfl rfl (by kernel_rfl)) (fun _=>rfl) (xs:=a0) (i:=a1.toNat) (j:=a2.toNat) (by omega) (by omega);rw [show ((a1.toNat:Nat):Int)=a1 by omega,show ((a2.toNat:Nat):Int)=a2 by omega] at k;exact k
noncomputable def Qce (a0:(List Qv2)) (a1:Qv3):Option ((List Qv2)) :=
 bd (QF a0) fun x1 =>
 bd (Qr a1.Entry) fun x2 =>
 bd (J4 x1 x2) fun x3 =>
(if ((a1.Kind == 1) && x3.2)=true then
 gd ((0:Int)≤x3.1∧x3.1<((x1.length:Nat):Int)) <|
 some (x1.set x3.1.toNat a1.Entry)
else
(if (a1.Kind == 1)=true then
 bd (QX x1 x3.1 ([a1.Entry]:List Qv2)) fun x5 =>
 some x5
else
(if ((a1.Kind == 2) && x3.2)=true then
 bd (QY x1 x3.1 (IntKind.i64.wrap (x3.1+1))) fun x6 =>
 some x6
else
 some x1)))
theorem Qkw {a0:(List Qv2)} {a1:Qv3} {r:(List Qv2)} (h:Qce a0 a1=some r):PureC Tryz.prog 66 [.d (slD Qv2.enc a0),.agg (dI a1.Kind :: hnC a1.Entry)] (.osl 5001 0 r.length) [⟨5001,31,4,r.length,rows Qv2.enc r⟩]:=by
  refine Qt tOk (fn:=Tryz.f66) (c:=Qj Tryz.f66) rfl rfl ?_;unfold Qce at h;(conv=>whnf);obtain ⟨x1,hx1,h⟩:=Qa h;refine cC 1000 (Zt hx1) ?_;clear hx1;(conv=>whnf);obtain ⟨x2,hx2,h⟩:=Qa h;refine cC 0 (Qy hx2) ?_;clear hx2;(conv=>whnf);obtain ⟨x3,hx3,h⟩:=Qa h;refine cC 0 (Qdq hx3) ?_;clear hx3;(conv=>whnf);refine Qe tOk ?_;(conv=>whnf);refine Qu h (fun _ h=>?_) (fun _ h=>?_)
  · (conv=>whnf);refine gdI h (fun h=>?_);(conv=>whnf);refine ⟨rows Qv2.enc (x1.set x3.1.toNat a1.Entry),Zd Qjk rfl,?_⟩;(conv=>whnf);obtain rfl:=sj_ h;exact lfP [.s [(5001,6001),(6001,5001)]]
  · (conv=>whnf);refine Qu h (fun _ h=>?_) (fun _ h=>?_)
    · (conv=>whnf);refine QcT (enc:=Qv2.enc) ([a1.Entry]:List Qv2) ?_;(conv=>whnf);obtain ⟨x5,hx5,h⟩:=Qa h;refine cE [(9000,6001),(9001,38)] 2000 (J8 hx5) ?_;(conv=>whnf);obtain rfl:=sj_ h;exact lfP [.s [(5001,7001),(7001,5001)]]
    · (conv=>whnf);refine Qu h (fun _ h=>?_) (fun _ h=>?_)
      · (conv=>whnf);obtain ⟨x6,hx6,h⟩:=Qa h;refine cE [(9000,6001)] 2000 (J9 hx6) ?_;(conv=>whnf);obtain rfl:=sj_ h;exact lfP [.s [(5001,7001),(7001,5001)]]
      · (conv=>whnf);obtain rfl:=sj_ h;exact lfP [.s [(5001,6001),(6001,5001)]]
noncomputable def QbV (a0:(List Qv2)) (a1:Qv3):Option ((List Qv2)) :=
 bd (QF a0) fun x1 =>
 bd (Qr a1.Entry) fun x2 =>
 bd (J4 x1 x2) fun x3 =>
(if ((a1.Kind == 1) && x3.2)=true then
 gd ((0:Int)≤x3.1∧x3.1<((x1.length:Nat):Int)) <|
 some (x1.set x3.1.toNat a1.Entry)
else
(if (a1.Kind == 1)=true then
 bd (QX x1 x3.1 ([a1.Entry]:List Qv2)) fun x5 =>
 some x5
else
(if ((a1.Kind == 2) && x3.2)=true then
 bd (QY x1 x3.1 (IntKind.i64.wrap (x3.1+1))) fun x6 =>
 some x6
else
 some x1)))
theorem Qh4 {a0:(List Qv2)} {a1:Qv3} {r:(List Qv2)} (h:QbV a0 a1=some r):EffC Tryz.prog 66 [.d (slD Qv2.enc a0),.agg (dI a1.Kind :: hnC a1.Entry)] [] (.d (slD Qv2.enc r)) []:=by
  refine QQ tOk (fn:=Tryz.f66) (c:=Qj Tryz.f66) rfl rfl ?_;unfold QbV at h;(conv=>whnf);obtain ⟨x1,hx1,h⟩:=Qa h;refine cC 1000 (Zt hx1) ?_;clear hx1;(conv=>whnf);obtain ⟨x2,hx2,h⟩:=Qa h;refine cC 0 (Qy hx2) ?_;clear hx2;(conv=>whnf);obtain ⟨x3,hx3,h⟩:=Qa h;refine cC 0 (Qdq hx3) ?_;clear hx3;(conv=>whnf);refine Qe tOk ?_;(conv=>whnf);refine Qu h (fun _ h=>?_) (fun _ h=>?_)
  · (conv=>whnf);refine gdI h (fun h=>?_);(conv=>whnf);refine ⟨rows Qv2.enc (x1.set x3.1.toNat a1.Entry),Zd Qjk rfl,?_⟩;(conv=>whnf);obtain rfl:=sj_ h;exact lfE [.f [6001]]
  · (conv=>whnf);refine Qu h (fun _ h=>?_) (fun _ h=>?_)
    · (conv=>whnf);refine QcT (enc:=Qv2.enc) ([a1.Entry]:List Qv2) ?_;(conv=>whnf);obtain ⟨x5,hx5,h⟩:=Qa h;refine cE [(9000,6001),(9001,38)] 2000 (J8 hx5) ?_;(conv=>whnf);obtain rfl:=sj_ h;exact lfE [.f [7001]]
    · (conv=>whnf);refine Qu h (fun _ h=>?_) (fun _ h=>?_)
      · (conv=>whnf);obtain ⟨x6,hx6,h⟩:=Qa h;refine cE [(9000,6001)] 2000 (J9 hx6) ?_;(conv=>whnf);obtain rfl:=sj_ h;exact lfE [.f [7001]]
      · (conv=>whnf);obtain rfl:=sj_ h;exact lfE [.f [6001]]
noncomputable def QbW (a0:Qv4):Option (Bool) :=
 some a0.Stale
theorem Qh5 {a0:Qv4} {r:Bool} (h:QbW a0=some r):PureC Tryz.prog 80 [.agg (hnC a0.Entry ++ [dB a0.Stale])] (dB r) []:=by
  refine Qt tOk (fn:=Tryz.f80) (c:=Qj Tryz.f80) rfl rfl ?_;unfold QbW at h;(conv=>whnf);obtain rfl:=sj_ h;exact lfP []
noncomputable def Qx (a0:(List Qv4)):Option (Int) :=
 bd (lp (σ:=Int) (β:=(Int ⊕ Unit)) (fun s1 =>
(if (decide (s1<((a0.length:Nat):Int)))=true then
 gd ((0:Int)≤s1∧s1<((a0.length:Nat):Int)) <|
 bd (QbW (⟨((a0.getD s1.toNat default).Entry),(a0.getD s1.toNat default).Stale⟩:Qv4)) fun x6 =>
(if x6=true then
 some (.inr (.inl s1))
else
 some (.inl (IntKind.i64.wrap (s1+1))))
else
 some (.inr (.inr ())))) 0) fun x4 =>
(match x4 with
| .inl d7 =>
 some d7
| .inr d8 =>
 some (-1))
theorem JY {a0:(List Qv4)} {r:Int} (h:Qx a0=some r):PureC Tryz.prog 122 [.d (slD Qv4.enc a0),.fn 80 []] (dI r) []:=by
  refine Qt tOk (fn:=Tryz.f122) (c:=Qj Tryz.f122) rfl rfl ?_;unfold Qx at h;(conv=>whnf);refine Qe tOk ?_;(conv=>whnf);obtain ⟨x4,hx4,h⟩:=Qa h;refine Zh tOk hx4 (fun s1=>⟨0,19,[(0,.d (slD Qv4.enc a0)),(1,.fn 80 []),(7,dI ((a0.length:Nat):Int)),(8,dI s1)],[],[],[]⟩) ?_ ?_
  · exact leX []
  · clear hx4;intro s1 y2 g3 hy2;(conv=>whnf);refine Qe tOk ?_;(conv=>whnf);refine Qu g3 (fun _ g3=>?_) (fun _ g3=>?_)
    · (conv=>whnf);refine Qe tOk ?_;(conv=>whnf);refine gdI g3 (fun g3=>?_);(conv=>whnf);obtain ⟨x6,hx6,g3⟩:=Qa g3;refine cC 0 (Qh5 hx6) ?_;clear hx6;(conv=>whnf);refine Qu g3 (fun _ g3=>?_) (fun _ g3=>?_)
      · (conv=>whnf);obtain rfl:=sj_ g3;obtain rfl:=hy2 _ rfl;obtain rfl:=sj_ h;exact lfP []
      · (conv=>whnf);obtain rfl:=sj_ g3;exact ⟨_,rfl,leX []⟩
    · (conv=>whnf);obtain rfl:=sj_ g3;obtain rfl:=hy2 _ rfl;obtain rfl:=sj_ h;exact lfP []
noncomputable def QG (a0:(List Qv4)):Option (Bool) :=
 bd (Qx a0) fun x1 =>
 some (decide (x1 ≥ 0))
theorem JE {a0:(List Qv4)} {r:Bool} (h:QG a0=some r):PureC Tryz.prog 79 [.d (slD Qv4.enc a0),.fn 80 []] (dB r) []:=by
  refine Qt tOk (fn:=Tryz.f79) (c:=Qj Tryz.f79) rfl rfl ?_;unfold QG at h;(conv=>whnf);obtain ⟨x1,hx1,h⟩:=Qa h;refine cC 0 (JY hx1) ?_;clear hx1;(conv=>whnf);obtain rfl:=sj_ h;exact lfP []
noncomputable def JQ (a0:(List Qv4)):Option (Bool) :=
 bd (QG a0) fun x1 =>
 some x1
theorem QfB {a0:(List Qv4)} {r:Bool} (h:JQ a0=some r):PureC Tryz.prog 41 [.d (slD Qv4.enc a0)] (dB r) []:=by
  refine Qt tOk (fn:=Tryz.f41) (c:=Qj Tryz.f41) rfl rfl ?_;unfold JQ at h;(conv=>whnf);obtain ⟨x1,hx1,h⟩:=Qa h;refine cC 0 (JE hx1) ?_;clear hx1;(conv=>whnf);obtain rfl:=sj_ h;exact lfP []
noncomputable def Jo (a0:Qv5):Option (Bool) :=
 bd (lp (σ:=Int) (β:=(Unit ⊕ Unit)) (fun s1 =>
(if (decide (s1<((a0.Heard.length:Nat):Int)))=true then
 gd ((0:Int)≤s1∧s1<((a0.Heard.length:Nat):Int)) <|
 bd (ZX ((a0.Heard.getD s1.toNat default).Entry)) fun x6 =>
 gd ((decide (s1 > 0))=true→(((!x6) || ((a0.Left == 0) && (!((a0.Heard.getD s1.toNat default).Stale))))=false→((0:Int)≤IntKind.i64.wrap (s1 - 1)∧IntKind.i64.wrap (s1 - 1)<((a0.Heard.length:Nat):Int)))) <|
 bd (gcall ((decide (s1 > 0))=true∧((!x6) || ((a0.Left == 0) && (!((a0.Heard.getD s1.toNat default).Stale))))=false) (Qr ((a0.Heard.getD ((IntKind.i64.wrap (s1 - 1)).toNat) default).Entry))) fun x8 =>
 bd (gcall ((decide (s1 > 0))=true∧((!x6) || ((a0.Left == 0) && (!((a0.Heard.getD s1.toNat default).Stale))))=false) (Qr ((a0.Heard.getD s1.toNat default).Entry))) fun x9 =>
 bd (gcall ((decide (s1 > 0))=true∧((!x6) || ((a0.Left == 0) && (!((a0.Heard.getD s1.toNat default).Stale))))=false) (Zz x8 x9)) fun x10 =>
(if (((!x6) || ((a0.Left == 0) && (!((a0.Heard.getD s1.toNat default).Stale)))) || ((decide (s1 > 0)) && (decide (x10 ≥ 0))))=true then
 some (.inr (.inl ()))
else
 some (.inl (IntKind.i64.wrap (s1+1))))
else
 some (.inr (.inr ())))) 0) fun x4 =>
(match x4 with
| .inl d11 =>
 some false
| .inr d12 =>
 bd (gcall ((decide (((a0.Heard.length:Nat):Int)≤16))=true) (Qw a0.Keep 0 6)) fun x13 =>
 bd (gcall (((decide (((a0.Heard.length:Nat):Int)≤16)) && x13)=true) (JQ a0.Heard)) fun x14 =>
 some (((decide (((a0.Heard.length:Nat):Int)≤16)) && x13) && ((decide (a0.Keep > 0)) == x14)))
theorem QeT {a0:Qv5} {r:Bool} (h:Jo a0=some r):PureC Tryz.prog 67 [.agg (heC a0 (.d (slD Qv4.enc a0.Heard)))] (dB r) []:=by
  refine Qt tOk (fn:=Tryz.f67) (c:=Qj Tryz.f67) rfl rfl ?_;unfold Jo at h;(conv=>whnf);refine Qe tOk ?_;(conv=>whnf);obtain ⟨x4,hx4,h⟩:=Qa h;refine Zh tOk hx4 (fun s1=>⟨0,65,[(1,.ref 1 0 0),(6,.d (slD Qv4.enc a0.Heard)),(7,dI ((a0.Heard.length:Nat):Int)),(8,dI s1)],[],[(1,.box 36 (heC a0 (.d (slD Qv4.enc a0.Heard))))],[]⟩) ?_ ?_
  · exact leX []
  · clear hx4;intro s1 y2 g3 hy2;(conv=>whnf);refine Qe tOk ?_;(conv=>whnf);refine Qu g3 (fun _ g3=>?_) (fun _ g3=>?_)
    · (conv=>whnf);refine Qe tOk ?_;(conv=>whnf);refine gdI g3 (fun g3=>?_);(conv=>whnf);obtain ⟨x6,hx6,g3⟩:=Qa g3;obtain ⟨g7,g3⟩:=Qg g3;obtain ⟨x8,hx8,g3⟩:=Qa g3;obtain ⟨x9,hx9,g3⟩:=Qa g3;obtain ⟨x10,hx10,g3⟩:=Qa g3;refine QP tOk [.u 2 0 (dB x6) [],.u 25 0 (.agg [dI x8.Addr,dI x8.Len]) [],.u 28 0 (.agg [dI x9.Addr,dI x9.Len]) [],.u 29 0 (dI x10) []] 33 [] [0,1,3,7,15,31,63,127,255,511,1023,2047,4095,8191,16383,32767,65535,131071,262143,524287,262143,1310719,4194303,8388607,16777215,33554431,262143,67371007,268435455,536870911,1073741823,2147483647,4294967295] [] ?_;(conv=>whnf);refine And.intro (QM (Qb7 hx6) (by kernel_rfl)) ?_;(conv=>whnf);refine And.intro g7 ?_;clear g7;(conv=>whnf);refine And.intro (Q1 rfl rfl rfl rfl (by intro c0 c1; exact Qy (Qf hx8 ⟨c0,c1⟩))) ?_;(conv=>whnf);refine And.intro (Q1 rfl rfl rfl rfl (by intro c0 c1; exact Qy (Qf hx9 ⟨c0,c1⟩))) ?_;(conv=>whnf);refine And.intro (Q1 rfl rfl rfl rfl (by intro c0 c1; exact QaP (Qf hx10 ⟨c0,c1⟩))) ?_;(conv=>whnf);refine And.intro (by kernel_rfl) ?_;(conv=>whnf);refine Qu g3 (fun _ g3=>?_) (fun _ g3=>?_)
      · (conv=>whnf);obtain rfl:=sj_ g3;obtain rfl:=hy2 _ rfl;obtain rfl:=sj_ h;exact lfP []
      · (conv=>whnf);obtain rfl:=sj_ g3;exact ⟨_,rfl,leX []⟩
    · (conv=>whnf);obtain rfl:=sj_ g3;obtain rfl:=hy2 _ rfl;obtain ⟨x13,hx13,h⟩:=Qa h;obtain ⟨x14,hx14,h⟩:=Qa h;refine QP tOk [.u 7 0 (dB x13) [],.u 15 0 (dB x14) []] 19 [] [0,1,3,7,15,31,63,127,255,511,1023,2047,4095,1023,9215,25599,65535,131071,262143] [] ?_;(conv=>whnf);refine And.intro (Q1 rfl rfl rfl rfl (by intro c0; exact Qz (Qf hx13 c0))) ?_;(conv=>whnf);refine And.intro (Q1 rfl rfl rfl rfl (by intro c0; exact QfB (Qf hx14 c0))) ?_;(conv=>whnf);refine And.intro (by kernel_rfl) ?_;(conv=>whnf);obtain rfl:=sj_ h;exact lfP []
noncomputable def Qai (a0:Qv5):Option (Bool) :=
 bd (Qw a0.Name 0 65535) fun x1 =>
 bd (gcall ((!x1)=false) (Qw a0.Peer 0 65535)) fun x2 =>
 bd (gcall ((((!x1) || (!x2)) || (a0.Name == a0.Peer))=false) (Z3 a0.Keys)) fun x3 =>
(if ((((!x1) || (!x2)) || (a0.Name == a0.Peer)) || (!x3))=true then
 some false
else
 bd (Qw a0.Boot 1 1000) fun x4 =>
 bd (gcall ((!x4)=false) (Qw a0.Turn 0 1000000)) fun x5 =>
 bd (gcall (((!x4) || (!x5))=false) (Qw a0.PeerTurn 0 1000000)) fun x6 =>
 bd (gcall ((((!x4) || (!x5)) || (!x6))=false) (Qw a0.Got 0 1000000)) fun x7 =>
(if ((((!x4) || (!x5)) || (!x6)) || (!x7))=true then
 some false
else
 bd (Qw a0.PeerBoot 0 999) fun x8 =>
(if ((!x8) || (!((a0.PeerBoot == 0) == (a0.PeerTurn == 0))))=true then
 some false
else
 bd (Qw a0.Left 0 4) fun x9 =>
(if (((!x9) || ((a0.PeerBoot == 0) && (a0.Left != 0))) || (a0.Up && (a0.Left == 0)))=true then
 some false
else
 bd (Qw a0.Num 0 a0.Turn) fun x10 =>
 bd (gcall ((!x10)=false) (Jc a0.Under)) fun x11 =>
(if (((!x10) || (!x11)) || ((a0.Num == 0) && (a0.Under.Kind != 0)))=true then
 some false
else
 bd (Zs a0.Want) fun x12 =>
 bd (gcall ((!x12)=false) (Zs a0.Told)) fun x13 =>
 bd (gcall (((!x12) || (!x13))=false) (QbV a0.Told a0.Under)) fun x14 =>
 bd (gcall (((!x12) || (!x13))=false) (Zs x14)) fun x15 =>
(if (((!x12) || (!x13)) || (!x15))=true then
 some false
else
 bd (Jo a0) fun x16 =>
 some x16))))))
theorem Qh6 {a0:Qv5} {r:Bool} (h:Qai a0=some r):PureC Tryz.prog 32 [.agg (heC a0 (.d (slD Qv4.enc a0.Heard)))] (dB r) []:=by
  refine Qt tOk (fn:=Tryz.f32) (c:=Qj Tryz.f32) rfl rfl ?_;unfold Qai at h;(conv=>whnf);refine Qe tOk ?_;(conv=>whnf);obtain ⟨x1,hx1,h⟩:=Qa h;refine cC 0 (Qz hx1) ?_;clear hx1;(conv=>whnf);obtain ⟨x2,hx2,h⟩:=Qa h;refine cG (fun c0=>Qz (Qf hx2 c0)) ?_;(conv=>whnf);obtain ⟨x3,hx3,h⟩:=Qa h;refine cG (fun c0=>Qbu (Qf hx3 c0)) ?_;(conv=>whnf);refine Qu h (fun _ h=>?_) (fun _ h=>?_)
  · (conv=>whnf);obtain rfl:=sj_ h;exact lfP []
  · (conv=>whnf);obtain ⟨x4,hx4,h⟩:=Qa h;refine cC 0 (Qz hx4) ?_;clear hx4;(conv=>whnf);obtain ⟨x5,hx5,h⟩:=Qa h;refine cG (fun c0=>Qz (Qf hx5 c0)) ?_;(conv=>whnf);obtain ⟨x6,hx6,h⟩:=Qa h;refine cG (fun c0=>Qz (Qf hx6 c0)) ?_;(conv=>whnf);obtain ⟨x7,hx7,h⟩:=Qa h;refine cG (fun c0=>Qz (Qf hx7 c0)) ?_;(conv=>whnf);refine Qu h (fun _ h=>?_) (fun _ h=>?_)
    · (conv=>whnf);obtain rfl:=sj_ h;exact lfP []
    · (conv=>whnf);obtain ⟨x8,hx8,h⟩:=Qa h;refine cC 0 (Qz hx8) ?_;clear hx8;(conv=>whnf);refine Qu h (fun _ h=>?_) (fun _ h=>?_)
      · (conv=>whnf);obtain rfl:=sj_ h;exact lfP []
      · (conv=>whnf);obtain ⟨x9,hx9,h⟩:=Qa h;refine cC 0 (Qz hx9) ?_;clear hx9;(conv=>whnf);refine Qu h (fun _ h=>?_) (fun _ h=>?_)
        · (conv=>whnf);obtain rfl:=sj_ h;exact lfP []
        · (conv=>whnf);obtain ⟨x10,hx10,h⟩:=Qa h;refine cC 0 (Qz hx10) ?_;clear hx10;(conv=>whnf);obtain ⟨x11,hx11,h⟩:=Qa h;refine cG (fun c0=>Qda (Qf hx11 c0)) ?_;(conv=>whnf);refine Qu h (fun _ h=>?_) (fun _ h=>?_)
          · (conv=>whnf);obtain rfl:=sj_ h;exact lfP []
          · (conv=>whnf);obtain ⟨x12,hx12,h⟩:=Qa h;refine cC 0 (Qar hx12) ?_;clear hx12;(conv=>whnf);obtain ⟨x13,hx13,h⟩:=Qa h;refine cG (fun c0=>Qar (Qf hx13 c0)) ?_;(conv=>whnf);obtain ⟨x14,hx14,h⟩:=Qa h;refine QnC [] 0 rfl rfl rfl (by intro c0; exact Qh4 (Qf hx14 c0)) Qou inA rfl rfl (Qf8 inA) ?_;(conv=>whnf);obtain ⟨x15,hx15,h⟩:=Qa h;refine cG (fun c0=>Qar (Qf hx15 c0)) ?_;(conv=>whnf);refine Qu h (fun _ h=>?_) (fun _ h=>?_)
            · (conv=>whnf);obtain rfl:=sj_ h;exact lfP []
            · (conv=>whnf);obtain ⟨x16,hx16,h⟩:=Qa h;refine cC 0 (QeT hx16) ?_;clear hx16;(conv=>whnf);obtain rfl:=sj_ h;exact lfP []
noncomputable def Jp (a0:Qv5):Option (Bool) :=
 some (((((((((((((a0.Turn == 0) && (a0.PeerBoot == 0)) && (a0.PeerTurn == 0)) && (!a0.Up)) && (a0.Left == 0)) && (a0.Num == 0)) && ((a0.Under.Kind == 0) && (((a0.Under.Entry.Addr == 0) && ((a0.Under.Entry.Len == 0) && ((a0.Under.Entry.Cost == 0) && ((a0.Under.Entry.Label == 0) && true)))) && true))) && (((a0.Told.length:Nat):Int) == 0)) && (!a0.All)) && (a0.Got == 0)) && (!a0.Full)) && (((a0.Heard.length:Nat):Int) == 0)) && (a0.Keep == 0))
theorem Qjt {a0:Qv5} {r:Bool} (h:Jp a0=some r):PureC Tryz.prog 40 [.agg (heC a0 (.d (slD Qv4.enc a0.Heard)))] (dB r) []:=by
  refine Qt tOk (fn:=Tryz.f40) (c:=Qj Tryz.f40) rfl rfl ?_;unfold Jp at h;(conv=>whnf);obtain rfl:=sj_ h;exact lfP []
noncomputable def QI (a0:Qv8):Option (Bool) :=
(if ((((a0.Sides.length:Nat):Int) != 2) || (decide (((a0.Radio.length:Nat):Int) > 12)))=true then
 some false
else
 bd (lp (σ:=Int) (β:=(Unit ⊕ Unit)) (fun s1 =>
(if (decide (s1<((a0.Sides.length:Nat):Int)))=true then
 gd ((0:Int)≤s1∧s1<((a0.Sides.length:Nat):Int)) <|
 bd (Qai ({ ((a0.Sides.getD s1.toNat default).End) with Under:=(⟨(((a0.Sides.getD s1.toNat default).End).Under).Kind,((((a0.Sides.getD s1.toNat default).End).Under).Entry)⟩:Qv3) })) fun x6 =>
 gd ((!x6)=false→((0:Int)≤IntKind.i64.wrap (1 - s1)∧IntKind.i64.wrap (1 - s1)<((a0.Sides.length:Nat):Int))) <|
 bd (gcall ((!((a0.Sides.getD s1.toNat default).Up))=true∧((!x6) || ((((a0.Sides.getD s1.toNat default).End).Name) != (((a0.Sides.getD ((IntKind.i64.wrap (1 - s1)).toNat) default).End).Peer)))=false) (Jp ({ ((a0.Sides.getD s1.toNat default).End) with Under:=(⟨(((a0.Sides.getD s1.toNat default).End).Under).Kind,((((a0.Sides.getD s1.toNat default).End).Under).Entry)⟩:Qv3) }))) fun x8 =>
(if (((!x6) || ((((a0.Sides.getD s1.toNat default).End).Name) != (((a0.Sides.getD ((IntKind.i64.wrap (1 - s1)).toNat) default).End).Peer))) || ((!((a0.Sides.getD s1.toNat default).Up)) && (!x8)))=true then
 some (.inr (.inl ()))
else
 some (.inl (IntKind.i64.wrap (s1+1))))
else
 some (.inr (.inr ())))) 0) fun x4 =>
(match x4 with
| .inl d9 =>
 some false
| .inr d10 =>
 bd (lp (σ:=Int) (β:=(Unit ⊕ Unit)) (fun s11 =>
(if (decide (s11<((a0.Radio.length:Nat):Int)))=true then
 gd ((0:Int)≤s11∧s11<((a0.Radio.length:Nat):Int)) <|
 bd (Jn ({ (a0.Radio.getD s11.toNat default) with Change:=(⟨((a0.Radio.getD s11.toNat default).Change).Kind,(((a0.Radio.getD s11.toNat default).Change).Entry)⟩:Qv3) })) fun x16 =>
(if (!x16)=true then
 some (.inr (.inl ()))
else
 some (.inl (IntKind.i64.wrap (s11+1))))
else
 some (.inr (.inr ())))) 0) fun x14 =>
(match x14 with
| .inl d17 =>
 some false
| .inr d18 =>
 some true)))
theorem JF {a0:Qv8} {r:Bool} (h:QI a0=some r):PureC Tryz.prog 17 [.agg [.d (slD Qv6.enc a0.Sides),.d (slD Qv7.enc a0.Radio)]] (dB r) []:=by
  refine Qt tOk (fn:=Tryz.f17) (c:=Qj Tryz.f17) rfl rfl ?_;unfold QI at h;(conv=>whnf);refine Qe tOk ?_;(conv=>whnf);refine Qu h (fun _ h=>?_) (fun _ h=>?_)
  · (conv=>whnf);obtain rfl:=sj_ h;exact lfP []
  · (conv=>whnf);refine Qe tOk ?_;(conv=>whnf);obtain ⟨x4,hx4,h⟩:=Qa h;refine Zh tOk hx4 (fun s1=>⟨0,66,[(1,.ref 1 0 0),(18,.d (slD Qv6.enc a0.Sides)),(19,dI ((a0.Sides.length:Nat):Int)),(20,dI s1)],[],[(1,.box 26 [.d (slD Qv6.enc a0.Sides),.d (slD Qv7.enc a0.Radio)])],[]⟩) ?_ ?_
    · exact leX []
    · clear hx4;intro s1 y2 g3 hy2;(conv=>whnf);refine Qe tOk ?_;(conv=>whnf);refine Qu g3 (fun _ g3=>?_) (fun _ g3=>?_)
      · (conv=>whnf);refine Qe tOk ?_;(conv=>whnf);refine gdI g3 (fun g3=>?_);(conv=>whnf);obtain ⟨x6,hx6,g3⟩:=Qa g3;obtain ⟨g7,g3⟩:=Qg g3;obtain ⟨x8,hx8,g3⟩:=Qa g3;refine QP tOk [.u 2 0 (dB x6) [],.u 25 0 (dB x8) []] 29 [] [0,1,3,7,15,31,63,127,31,287,31,1055,3871,7967,16159,32543,65535,131071,262143,524287,1048575,2097151,4194303,8388607,16777215,33554431,67108863,134217727,268435455] [] ?_;(conv=>whnf);refine And.intro (QM (Qh6 hx6) (by kernel_rfl)) ?_;(conv=>whnf);refine And.intro g7 ?_;clear g7;(conv=>whnf);refine And.intro (Q1 rfl rfl rfl rfl (by intro c0 c1; exact Qjt (Qf hx8 ⟨c0,c1⟩))) ?_;(conv=>whnf);refine And.intro (by kernel_rfl) ?_;(conv=>whnf);refine Qu g3 (fun _ g3=>?_) (fun _ g3=>?_)
        · (conv=>whnf);obtain rfl:=sj_ g3;obtain rfl:=hy2 _ rfl;obtain rfl:=sj_ h;exact lfP []
        · (conv=>whnf);obtain rfl:=sj_ g3;exact ⟨_,rfl,leX []⟩
      · (conv=>whnf);obtain rfl:=sj_ g3;obtain rfl:=hy2 _ rfl;refine Qe tOk ?_;(conv=>whnf);obtain ⟨x14,hx14,h⟩:=Qa h;refine Zh tOk hx14 (fun s11=>⟨0,66,[(56,.d (slD Qv7.enc a0.Radio)),(57,dI ((a0.Radio.length:Nat):Int)),(58,dI s11)],[],[],[]⟩) ?_ ?_
        · exact leX []
        · clear hx14;intro s11 y12 g13 hy12;(conv=>whnf);refine Qe tOk ?_;(conv=>whnf);refine Qu g13 (fun _ g13=>?_) (fun _ g13=>?_)
          · (conv=>whnf);refine Qe tOk ?_;(conv=>whnf);refine gdI g13 (fun g13=>?_);(conv=>whnf);obtain ⟨x16,hx16,g13⟩:=Qa g13;refine cC 0 (QcE hx16) ?_;clear hx16;(conv=>whnf);refine Qu g13 (fun _ g13=>?_) (fun _ g13=>?_)
            · (conv=>whnf);obtain rfl:=sj_ g13;obtain rfl:=hy12 _ rfl;obtain rfl:=sj_ h;exact lfP []
            · (conv=>whnf);obtain rfl:=sj_ g13;exact ⟨_,rfl,leX []⟩
          · (conv=>whnf);obtain rfl:=sj_ g13;obtain rfl:=hy12 _ rfl;obtain rfl:=sj_ h;exact lfP []
noncomputable def Zp (a0:(List Qv1)):Option ((List Qv1)) :=
 gd ((0:Int)≤0∧0≤((a0.length:Nat):Int)∧((a0.length:Nat):Int)*16≤140737488355328∧((a0.length:Nat):Int)≤140737488355328) <|
 gd ((((List.replicate (0:Int).toNat (default:Qv1)).length)+(a0.length))*(16+1)≤70368744177664) <|
 some ((List.replicate (0:Int).toNat (default:Qv1)) ++ a0)
theorem QaE {a0:(List Qv1)} {r:(List Qv1)} (h:Zp a0=some r):PureC Tryz.prog 65 [.d (slD Qv1.enc a0)] (.osl 5001 0 r.length) [⟨5001,93,2,r.length,rows Qv1.enc r⟩]:=by
  refine Qt tOk (fn:=Tryz.f65) (c:=Qj Tryz.f65) rfl rfl ?_;unfold Zp at h;(conv=>whnf);obtain ⟨g2,h⟩:=Qg h;refine And.intro g2 ?_;clear g2;refine ⟨(List.replicate (0:Int).toNat (default:Qv1)).length,rows Qv1.enc (List.replicate (0:Int).toNat (default:Qv1)),by simp,Qhl rfl,?_⟩;(conv=>whnf);refine gdI h (fun h=>?_);refine Qh0 (enc:=Qv1.enc) (xs:=(List.replicate (0:Int).toNat (default:Qv1))) (ys:=a0) ?_;(conv=>whnf);obtain rfl:=sj_ h;exact lfP [.s [(5,5001),(5001,5)]]
noncomputable def JB (a0:(List Qv7)):Option ((List Qv7)) :=
 gd ((0:Int)≤0∧0≤((a0.length:Nat):Int)∧((a0.length:Nat):Int)*112≤140737488355328∧((a0.length:Nat):Int)≤140737488355328) <|
 gd ((((List.replicate (0:Int).toNat (default:Qv7)).length)+(a0.length))*(112+1)≤70368744177664) <|
 some ((List.replicate (0:Int).toNat (default:Qv7)) ++ a0)
theorem Qfs {a0:(List Qv7)} {r:(List Qv7)} (h:JB a0=some r):PureC Tryz.prog 47 [.d (slD Qv7.enc a0)] (.osl 5001 0 r.length) [⟨5001,42,14,r.length,rows Qv7.enc r⟩]:=by
  refine Qt tOk (fn:=Tryz.f47) (c:=Qj Tryz.f47) rfl rfl ?_;unfold JB at h;(conv=>whnf);obtain ⟨g2,h⟩:=Qg h;refine And.intro g2 ?_;clear g2;refine ⟨(List.replicate (0:Int).toNat (default:Qv7)).length,rows Qv7.enc (List.replicate (0:Int).toNat (default:Qv7)),by simp,Qhl rfl,?_⟩;(conv=>whnf);refine gdI h (fun h=>?_);refine Qh0 (enc:=Qv7.enc) (xs:=(List.replicate (0:Int).toNat (default:Qv7))) (ys:=a0) ?_;(conv=>whnf);obtain rfl:=sj_ h;exact lfP [.s [(5,5001),(5001,5)]]
noncomputable def ZR (a0:Qv5):Option (Bool) :=
 some (a0.Boot == 1000)
theorem QcF {a0:Qv5} {r:Bool} (h:ZR a0=some r):PureC Tryz.prog 95 [.rp [.int .i64 a0.Name,.int .i64 a0.Peer,slD Qv1.enc a0.Keys,.int .i64 a0.Boot,slD Qv2.enc a0.Want,.int .i64 a0.Turn,.int .i64 a0.PeerBoot,.int .i64 a0.PeerTurn,.bool a0.Up,.int .i64 a0.Left,.int .i64 a0.Num,.int .i64 a0.Under.Kind,.int .i64 a0.Under.Entry.Addr,.int .i64 a0.Under.Entry.Len,.int .i64 a0.Under.Entry.Cost,.int .i64 a0.Under.Entry.Label,slD Qv2.enc a0.Told,.bool a0.All,.int .i64 a0.Got,.bool a0.Full,slD Qv4.enc a0.Heard,.int .i64 a0.Keep]] (dB r) []:=by
  refine Qt tOk (fn:=Tryz.f95) (c:=Qj Tryz.f95) rfl rfl ?_;unfold ZR at h;(conv=>whnf);obtain rfl:=sj_ h;exact lfP []
noncomputable def QbX (a0:Int) (a1:(List Int)):Option (Int) :=
 bd (lp (σ:=Int × Int) (β:=(Int)) (fun s1 =>
(if (decide (s1.2<((a1.length:Nat):Int)))=true then
 gd ((0:Int)≤s1.2∧s1.2<((a1.length:Nat):Int)) <|
 gd ((2147483647:Int) ≠ 0) <|
 gd ((2147483647:Int) ≠ 0) <|
 gd ((2147483647:Int) ≠ 0) <|
 some (.inl (((IntKind.i64.wrap ((IntKind.i64.wrap ((IntKind.i64.wrap (48271*s1.1))+((IntKind.i64.wrap ((((a1.getD s1.2.toNat default):Int).tmod 2147483647)+2147483647):Int).tmod 2147483647)))+1):Int).tmod 2147483647),IntKind.i64.wrap (s1.2+1)))
else
 some (.inr s1.1))) (a0,0)) fun x4 =>
 some x4
theorem Qhm {a0:Int} {a1:(List Int)} {r:Int} (h:QbX a0 a1=some r):PureC Tryz.prog 135 [dI a0,.d (slD Jz a1)] (dI r) []:=by
  refine Qt tOk (fn:=Tryz.f135) (c:=Qj Tryz.f135) rfl rfl ?_;unfold QbX at h;(conv=>whnf);refine Qe tOk ?_;(conv=>whnf);obtain ⟨x4,hx4,h⟩:=Qa h;refine Zh tOk hx4 (fun s1=>⟨0,24,[(0,dI s1.1),(7,.d (slD Jz a1)),(8,dI ((a1.length:Nat):Int)),(9,dI s1.2)],[],[],[]⟩) ?_ ?_
  · exact leX []
  · clear hx4;intro s1 y2 g3 hy2;(conv=>whnf);refine Qe tOk ?_;(conv=>whnf);refine Qu g3 (fun _ g3=>?_) (fun _ g3=>?_)
    · (conv=>whnf);refine Qe tOk ?_;(conv=>whnf);refine gdI g3 (fun g3=>?_);(conv=>whnf);refine gdI g3 (fun g3=>?_);(conv=>whnf);refine gdI g3 (fun g3=>?_);(conv=>whnf);refine gdI g3 (fun g3=>?_);(conv=>whnf);obtain rfl:=sj_ g3;exact ⟨_,rfl,leX []⟩
    · (conv=>whnf);obtain rfl:=sj_ g3;obtain rfl:=hy2 _ rfl;obtain rfl:=sj_ h;exact lfP []
noncomputable def QaZ (a0:Int) (a1:Qv7):Option (Int) :=
 bd (QbX 0 ([a0,a1.From,a1.To,a1.Key,a1.Boot,a1.Yours,a1.Turn,a1.Num,a1.Heard]:List Int)) fun x1 =>
 bd (QbX x1 ([a1.Change.Kind,a1.Change.Entry.Addr,a1.Change.Entry.Len,a1.Change.Entry.Cost,a1.Change.Entry.Label,a0]:List Int)) fun x2 =>
 some x2
theorem QfC {a0:Int} {a1:Qv7} {r:Int} (h:QaZ a0 a1=some r):PureC Tryz.prog 94 [dI a0,.agg (hwC a1)] (dI r) []:=by
  refine Qt tOk (fn:=Tryz.f94) (c:=Qj Tryz.f94) rfl rfl ?_;unfold QaZ at h;(conv=>whnf);refine QcT (enc:=Jz) ([a0,a1.From,a1.To,a1.Key,a1.Boot,a1.Yours,a1.Turn,a1.Num,a1.Heard]:List Int) ?_;(conv=>whnf);obtain ⟨x1,hx1,h⟩:=Qa h;refine cC 0 (Qhm hx1) ?_;clear hx1;(conv=>whnf);refine QcT (enc:=Jz) ([a1.Change.Kind,a1.Change.Entry.Addr,a1.Change.Entry.Len,a1.Change.Entry.Cost,a1.Change.Entry.Label,a0]:List Int) ?_;(conv=>whnf);obtain ⟨x2,hx2,h⟩:=Qa h;refine cC 0 (Qhm hx2) ?_;clear hx2;(conv=>whnf);obtain rfl:=sj_ h;exact lfP []
noncomputable def Qas (a0:Qv1) (a1:Qv7):Option (Bool) :=
 bd (gcall ((a0.Id == a1.Key)=true) (QaZ a0.Secret a1)) fun x1 =>
 some ((a0.Id == a1.Key) && (x1 == a1.Sum))
theorem QgQ {a0:Qv1} {a1:Qv7} {r:Bool} (h:Qas a0 a1=some r):PureC Tryz.prog 93 [.agg [dI a0.Id,dI a0.Secret],.rp [.int .i64 a1.From,.int .i64 a1.To,.int .i64 a1.Key,.int .i64 a1.Boot,.int .i64 a1.Yours,.int .i64 a1.Turn,.int .i64 a1.Num,.int .i64 a1.Heard,.int .i64 a1.Change.Kind,.int .i64 a1.Change.Entry.Addr,.int .i64 a1.Change.Entry.Len,.int .i64 a1.Change.Entry.Cost,.int .i64 a1.Change.Entry.Label,.int .i64 a1.Sum]] (dB r) []:=by
  refine Qt tOk (fn:=Tryz.f93) (c:=Qj Tryz.f93) rfl rfl ?_;unfold Qas at h;(conv=>whnf);obtain ⟨x1,hx1,h⟩:=Qa h;refine QP tOk [.u 9 0 (dI x1) []] 15 [] [0,1,0,4,15,31,63,127,63,511,63,1087,4095,8191,16383] [] ?_;(conv=>whnf);refine And.intro (Q1 rfl rfl rfl rfl (by intro c0; exact QfC (Qf hx1 c0))) ?_;(conv=>whnf);refine And.intro (by kernel_rfl) ?_;(conv=>whnf);obtain rfl:=sj_ h;exact lfP []
noncomputable def QB (a0:(List Qv1)) (a1c0:Qv7):Option (Int) :=
 bd (lp (σ:=Int) (β:=(Int ⊕ Unit)) (fun s1 =>
(if (decide (s1<((a0.length:Nat):Int)))=true then
 gd ((0:Int)≤s1∧s1<((a0.length:Nat):Int)) <|
 bd (Qas (a0.getD s1.toNat default) a1c0) fun x6 =>
(if x6=true then
 some (.inr (.inl s1))
else
 some (.inl (IntKind.i64.wrap (s1+1))))
else
 some (.inr (.inr ())))) 0) fun x4 =>
(match x4 with
| .inl d7 =>
 some d7
| .inr d8 =>
 some (-1))
theorem Qaa {a0:(List Qv1)} {a1c0:Qv7} {r:Int} (h:QB a0 a1c0=some r):PureC Tryz.prog 134 [.d (slD Qv1.enc a0),.fn 93 [.rp [.int .i64 a1c0.From,.int .i64 a1c0.To,.int .i64 a1c0.Key,.int .i64 a1c0.Boot,.int .i64 a1c0.Yours,.int .i64 a1c0.Turn,.int .i64 a1c0.Num,.int .i64 a1c0.Heard,.int .i64 a1c0.Change.Kind,.int .i64 a1c0.Change.Entry.Addr,.int .i64 a1c0.Change.Entry.Len,.int .i64 a1c0.Change.Entry.Cost,.int .i64 a1c0.Change.Entry.Label,.int .i64 a1c0.Sum]]] (dI r) []:=by
  refine Qt tOk (fn:=Tryz.f134) (c:=Qj Tryz.f134) rfl rfl ?_;unfold QB at h;(conv=>whnf);refine Qe tOk ?_;(conv=>whnf);obtain ⟨x4,hx4,h⟩:=Qa h;refine Zh tOk hx4 (fun s1=>⟨0,19,[(0,.d (slD Qv1.enc a0)),(1,.fn 93 [.rp [.int .i64 a1c0.From,.int .i64 a1c0.To,.int .i64 a1c0.Key,.int .i64 a1c0.Boot,.int .i64 a1c0.Yours,.int .i64 a1c0.Turn,.int .i64 a1c0.Num,.int .i64 a1c0.Heard,.int .i64 a1c0.Change.Kind,.int .i64 a1c0.Change.Entry.Addr,.int .i64 a1c0.Change.Entry.Len,.int .i64 a1c0.Change.Entry.Cost,.int .i64 a1c0.Change.Entry.Label,.int .i64 a1c0.Sum]]),(7,dI ((a0.length:Nat):Int)),(8,dI s1)],[],[],[]⟩) ?_ ?_
  · exact leX []
  · clear hx4;intro s1 y2 g3 hy2;(conv=>whnf);refine Qe tOk ?_;(conv=>whnf);refine Qu g3 (fun _ g3=>?_) (fun _ g3=>?_)
    · (conv=>whnf);refine Qe tOk ?_;(conv=>whnf);refine gdI g3 (fun g3=>?_);(conv=>whnf);obtain ⟨x6,hx6,g3⟩:=Qa g3;refine cC 0 (QgQ hx6) ?_;clear hx6;(conv=>whnf);refine Qu g3 (fun _ g3=>?_) (fun _ g3=>?_)
      · (conv=>whnf);obtain rfl:=sj_ g3;obtain rfl:=hy2 _ rfl;obtain rfl:=sj_ h;exact lfP []
      · (conv=>whnf);obtain rfl:=sj_ g3;exact ⟨_,rfl,leX []⟩
    · (conv=>whnf);obtain rfl:=sj_ g3;obtain rfl:=hy2 _ rfl;obtain rfl:=sj_ h;exact lfP []
end Go.Proofs.YtjgjdobkahdgfaaGreat
