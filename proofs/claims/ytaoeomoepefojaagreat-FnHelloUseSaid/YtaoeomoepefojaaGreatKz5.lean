/-
  What some of the program's functions compute: their models, and that the functions compute these; no condition.
-/
import Derived.Test.YtaoeomoepefojaaGreatTyz
import Derived.Test.YtaoeomoepefojaaGreatTbz
import Derived.Test.YtaoeomoepefojaaGreatAbz7
import Derived.Test.YtaoeomoepefojaaGreatKz4
set_option linter.all false
namespace Go.Proofs.YtaoeomoepefojaaGreat
open Go Go.Ab
set_option maxRecDepth 100000
set_option maxHeartbeats 40000000
noncomputable def spec_l46Word_m (a0:l41Rd) (a1:HelloEnd):Option (HelloWord × l41Rd) :=
 bd (spec_l41Rd_pick_m a0 2) fun x1 =>
 bd (α:=Int) ((if ((IntKind.i64.wrap (a1.PeerBoot+x1.1)) == 0)=true then
 some 1
else
 some (IntKind.i64.wrap (a1.PeerBoot+x1.1)))) fun x2 =>
 bd (α:=Int × Int × Int × Int × Int) (bd (spec_l41Rd_pick_m (⟨a0.b,x1.2.p⟩:l41Rd) 6) fun x8 =>
(if (x8.1 == 0)=true then
 bd (spec_l41Rd_pick_m (⟨a0.b,x8.2.p⟩:l41Rd) 3) fun x9 =>
 gd ((0:Int)≤x9.1∧x9.1<((([0,IntKind.i64.wrap (a1.Boot - 1),IntKind.i64.wrap (a1.Boot+1)]:List Int).length:Nat):Int)) <|
 some (x2,(([0,IntKind.i64.wrap (a1.Boot - 1),IntKind.i64.wrap (a1.Boot+1)]:List Int).getD x9.1.toNat default),IntKind.i64.wrap (a1.PeerTurn+1),a1.Num,x9.2.p)
else
(if (x8.1 == 1)=true then
 bd (spec_l41Rd_pick_m (⟨a0.b,x8.2.p⟩:l41Rd) 3) fun x11 =>
 gd ((0:Int)≤x11.1∧x11.1<((([a1.PeerTurn,1,1000000]:List Int).length:Nat):Int)) <|
 some (x2,a1.Boot,(([a1.PeerTurn,1,1000000]:List Int).getD x11.1.toNat default),a1.Num,x11.2.p)
else
(if (x8.1 == 2)=true then
 bd (spec_l41Rd_pick_m (⟨a0.b,x8.2.p⟩:l41Rd) 4) fun x13 =>
 gd ((0:Int)≤x13.1∧x13.1<((([1,a1.PeerBoot,IntKind.i64.wrap (a1.PeerBoot - 1),999]:List Int).length:Nat):Int)) <|
 some ((([1,a1.PeerBoot,IntKind.i64.wrap (a1.PeerBoot - 1),999]:List Int).getD x13.1.toNat default),a1.Boot,IntKind.i64.wrap (a1.PeerTurn+1),a1.Num,x13.2.p)
else
(if (x8.1 == 3)=true then
 bd (spec_l41Rd_pick_m (⟨a0.b,x8.2.p⟩:l41Rd) 3) fun x15 =>
 gd ((0:Int)≤x15.1∧x15.1<((([0,IntKind.i64.wrap (a1.Num - 1),IntKind.i64.wrap (a1.Num+1)]:List Int).length:Nat):Int)) <|
 some (x2,a1.Boot,IntKind.i64.wrap (a1.PeerTurn+1),(([0,IntKind.i64.wrap (a1.Num - 1),IntKind.i64.wrap (a1.Num+1)]:List Int).getD x15.1.toNat default),x15.2.p)
else
 some (x2,a1.Boot,IntKind.i64.wrap (a1.PeerTurn+1),a1.Num,x8.2.p)))))) fun x5 =>
 bd (α:=Int × Int × Int × Int × Int × Int) (bd (spec_l41Rd_pick_m (⟨a0.b,x5.2.2.2.2⟩:l41Rd) 5) fun x20 =>
(if (x20.1 == 0)=true then
 some (0,0,0,3,0,x20.2.p)
else
(if (x20.1 == 1)=true then
 bd (spec_l46Prefix_m (⟨a0.b,x20.2.p⟩:l41Rd)) fun x21 =>
(if (decide (((a1.Heard.length:Nat):Int) > 0))=true then
 bd (spec_l41Rd_pick_m (⟨a0.b,x21.2.p⟩:l41Rd) ((a1.Heard.length:Nat):Int)) fun x22 =>
 gd ((0:Int)≤x22.1∧x22.1<((a1.Heard.length:Nat):Int)) <|
 some (((a1.Heard.getD x22.1.toNat default).Entry).Len,0,0,2,((a1.Heard.getD x22.1.toNat default).Entry).Addr,x22.2.p)
else
 some (x21.1.Len,x21.1.Cost,x21.1.Label,2,x21.1.Addr,x21.2.p))
else
(if (x20.1 == 2)=true then
(if (x20.1 == 2)=true then
 bd (spec_l46Entry_m (⟨a0.b,x20.2.p⟩:l41Rd)) fun x24 =>
 some (x24.1.Len,x24.1.Cost,x24.1.Label,1,x24.1.Addr,x24.2.p)
else
 some (0,0,0,0,0,x20.2.p))
else
(if (x20.1 == 3)=true then
 bd (spec_l46Entry_m (⟨a0.b,x20.2.p⟩:l41Rd)) fun x25 =>
 some (x25.1.Len,x25.1.Cost,x25.1.Label,1,x25.1.Addr,x25.2.p)
else
 some (0,0,0,0,0,x20.2.p)))))) fun x17 =>
 bd (α:=Int × Int) (bd (spec_l41Rd_pick_m (⟨a0.b,x17.2.2.2.2.2⟩:l41Rd) 8) fun x29 =>
(if (x29.1 == 0)=true then
 bd (spec_l41Rd_pick_m (⟨a0.b,x29.2.p⟩:l41Rd) 3) fun x30 =>
 gd ((0:Int)≤x30.1∧x30.1<((([0,a1.Got,IntKind.i64.wrap (a1.Got+2)]:List Int).length:Nat):Int)) <|
 some ((([0,a1.Got,IntKind.i64.wrap (a1.Got+2)]:List Int).getD x30.1.toNat default),x30.2.p)
else
 some (IntKind.i64.wrap (a1.Got+1),x29.2.p))) fun x26 =>
 bd (α:=Int) ((if (decide (x26.1 > x5.2.2.1))=true then
 some x26.1
else
 some x5.2.2.1)) fun x32 =>
 bd (α:=Int × Int × Int) ((if (decide (((a1.Keys.length:Nat):Int) > 0))=true then
 bd (spec_l41Rd_pick_m (⟨a0.b,x26.2⟩:l41Rd) ((a1.Keys.length:Nat):Int)) fun x38 =>
 gd ((0:Int)≤x38.1∧x38.1<((a1.Keys.length:Nat):Int)) <|
 bd (spec_HelloSum_m ((a1.Keys.getD x38.1.toNat default).Secret) (⟨a1.Peer,a1.Name,(a1.Keys.getD x38.1.toNat default).Id,x5.1,x5.2.1,x32,x26.1,x5.2.2.2.1,(⟨x17.2.2.2.1,(⟨x17.2.2.2.2.1,x17.1,x17.2.1,x17.2.2.1⟩:HelloEntry)⟩:HelloChange),0⟩:HelloWord)) fun x40 =>
 some (x40,(a1.Keys.getD x38.1.toNat default).Id,x38.2.p)
else
 some (0,1,x26.2))) fun x35 =>
 bd (spec_l41Rd_pick_m (⟨a0.b,x35.2.2⟩:l41Rd) 8) fun x41 =>
(if (x41.1 == 0)=true then
 bd (spec_l46SpoilWord_m (⟨a0.b,x41.2.p⟩:l41Rd) (⟨a1.Peer,a1.Name,x35.2.1,x5.1,x5.2.1,x32,x26.1,x5.2.2.2.1,(⟨x17.2.2.2.1,(⟨x17.2.2.2.2.1,x17.1,x17.2.1,x17.2.2.1⟩:HelloEntry)⟩:HelloChange),x35.1⟩:HelloWord)) fun x42 =>
 some (x42.1,(⟨a0.b,x42.2.p⟩:l41Rd))
else
 some ((⟨a1.Peer,a1.Name,x35.2.1,x5.1,x5.2.1,x32,x26.1,x5.2.2.2.1,(⟨x17.2.2.2.1,(⟨x17.2.2.2.2.1,x17.1,x17.2.1,x17.2.2.1⟩:HelloEntry)⟩:HelloChange),x35.1⟩:HelloWord),(⟨a0.b,x41.2.p⟩:l41Rd)))
theorem spec_l46Word_c {a0:l41Rd} {a1:HelloEnd} {r:HelloWord × l41Rd} (h:spec_l46Word_m a0 a1=some r):EffC Tryz.prog 69 [.ref 9000 0 0,.agg [.d (.int .i64 a1.Name),.d (.int .i64 a1.Peer),.d (slD HelloKey.enc a1.Keys),.d (.int .i64 a1.Boot),.d (slD HelloEntry.enc a1.Want),.d (.int .i64 a1.Turn),.d (.int .i64 a1.PeerBoot),.d (.int .i64 a1.PeerTurn),.d (.bool a1.Up),.d (.int .i64 a1.Left),.d (.int .i64 a1.Num),.d (.int .i64 a1.Under.Kind),.d (.int .i64 a1.Under.Entry.Addr),.d (.int .i64 a1.Under.Entry.Len),.d (.int .i64 a1.Under.Entry.Cost),.d (.int .i64 a1.Under.Entry.Label),.d (slD HelloEntry.enc a1.Told),.d (.bool a1.All),.d (.int .i64 a1.Got),.d (.bool a1.Full),.d (slD HelloRoute.enc a1.Heard),.d (.int .i64 a1.Keep)]] [(9000,.box 113 [.d (slD encByte a0.b),.d (.int .i64 a0.p)])] (.agg [.d (.int .i64 r.1.From),.d (.int .i64 r.1.To),.d (.int .i64 r.1.Key),.d (.int .i64 r.1.Boot),.d (.int .i64 r.1.Yours),.d (.int .i64 r.1.Turn),.d (.int .i64 r.1.Num),.d (.int .i64 r.1.Heard),.d (.int .i64 r.1.Change.Kind),.d (.int .i64 r.1.Change.Entry.Addr),.d (.int .i64 r.1.Change.Entry.Len),.d (.int .i64 r.1.Change.Entry.Cost),.d (.int .i64 r.1.Change.Entry.Label),.d (.int .i64 r.1.Sum)]) [(9000,.box 113 [.d (slD encByte a0.b),.d (.int .i64 r.2.p)])]:=by
  refine effC_x tOk (fn:=Tryz.f69) (c:=codeOf Tryz.f69) rfl rfl ?_;unfold spec_l46Word_m at h;(conv=>whnf);obtain ⟨x1,hx1,h⟩:=bd_some h;refine draw_t tOk [.e 7 [(9000,.box 113 [.d (slD encByte a0.b),.d (.int .i64 a0.p)])] (.d (.int .i64 x1.1)) [] [(9000,.box 113 [.d (slD encByte a0.b),.d (.int .i64 x1.2.p)])]] 21 [] [0,1,0,4,0,16,0,64,240,0,512,0,2048,6144,0,16384,49152,0,131072,524287,0] [2097151] [9000] ?_;(conv=>whnf);refine And.intro (eD [(9000,9000)] 0 (spec_l41Rd_pick_c hx1)) ?_;(conv=>whnf);refine And.intro (by kernel_rfl) ?_;(conv=>whnf);obtain ⟨x2,hx2,h⟩:=bd_some h;refine seq_join tOk (fun s3=>⟨0,177,[(0,.ref 9000 0 0),(3,.ref 3 0 0),(4,.ref 4 0 0),(5,.ref 5 0 0)],[],[(5,.box 45 [.d (.int .i64 a1.Peer),.d (.int .i64 a1.Name),.d (.int .i64 1),.d (.int .i64 s3),.d (.int .i64 a1.Boot),.d (.int .i64 (IntKind.i64.wrap (a1.PeerTurn+1))),.d (.int .i64 (IntKind.i64.wrap (a1.Got+1))),.d (.int .i64 a1.Num),.d (.int .i64 0),.d (.int .i64 0),.d (.int .i64 0),.d (.int .i64 0),.d (.int .i64 0),.d (.int .i64 0)]),(4,.box 45 [.d (.int .i64 0),.d (.int .i64 0),.d (.int .i64 0),.d (.int .i64 0),.d (.int .i64 0),.d (.int .i64 0),.d (.int .i64 0),.d (.int .i64 0),.d (.int .i64 0),.d (.int .i64 0),.d (.int .i64 0),.d (.int .i64 0),.d (.int .i64 0),.d (.int .i64 0)]),(3,.box 41 [.d (.int .i64 a1.Name),.d (.int .i64 a1.Peer),.d (slD HelloKey.enc a1.Keys),.d (.int .i64 a1.Boot),.d (slD HelloEntry.enc a1.Want),.d (.int .i64 a1.Turn),.d (.int .i64 a1.PeerBoot),.d (.int .i64 a1.PeerTurn),.d (.bool a1.Up),.d (.int .i64 a1.Left),.d (.int .i64 a1.Num),.d (.int .i64 a1.Under.Kind),.d (.int .i64 a1.Under.Entry.Addr),.d (.int .i64 a1.Under.Entry.Len),.d (.int .i64 a1.Under.Entry.Cost),.d (.int .i64 a1.Under.Entry.Label),.d (slD HelloEntry.enc a1.Told),.d (.bool a1.All),.d (.int .i64 a1.Got),.d (.bool a1.Full),.d (slD HelloRoute.enc a1.Heard),.d (.int .i64 a1.Keep)]),(9000,.box 113 [.d (slD encByte a0.b),.d (.int .i64 x1.2.p)])],[⟨[(0,.ref 9000 0 0)],[]⟩]⟩) (fun s3=>x2=s3) ?_ ?_
  · (conv=>whnf);refine andI hx2 (fun _ hx2=>?_) (fun _ hx2=>?_)
    · (conv=>whnf);obtain rfl:=Option.some.inj hx2;exact ⟨_,rfl,leX []⟩
    · (conv=>whnf);obtain rfl:=Option.some.inj hx2;exact ⟨_,rfl,leX []⟩
  · rintro _ rfl;(conv=>whnf);obtain ⟨x5,hx5,h⟩:=bd_some h;refine seq_join tOk (fun s6=>⟨0,177,[(0,.ref 9000 0 0),(3,.ref 3 0 0),(4,.ref 4 0 0),(5,.ref 5 0 0)],[],[(5,.box 45 [.d (.int .i64 a1.Peer),.d (.int .i64 a1.Name),.d (.int .i64 1),.d (.int .i64 s6.1),.d (.int .i64 s6.2.1),.d (.int .i64 s6.2.2.1),.d (.int .i64 (IntKind.i64.wrap (a1.Got+1))),.d (.int .i64 s6.2.2.2.1),.d (.int .i64 0),.d (.int .i64 0),.d (.int .i64 0),.d (.int .i64 0),.d (.int .i64 0),.d (.int .i64 0)]),(4,.box 45 [.d (.int .i64 0),.d (.int .i64 0),.d (.int .i64 0),.d (.int .i64 0),.d (.int .i64 0),.d (.int .i64 0),.d (.int .i64 0),.d (.int .i64 0),.d (.int .i64 0),.d (.int .i64 0),.d (.int .i64 0),.d (.int .i64 0),.d (.int .i64 0),.d (.int .i64 0)]),(3,.box 41 [.d (.int .i64 a1.Name),.d (.int .i64 a1.Peer),.d (slD HelloKey.enc a1.Keys),.d (.int .i64 a1.Boot),.d (slD HelloEntry.enc a1.Want),.d (.int .i64 a1.Turn),.d (.int .i64 a1.PeerBoot),.d (.int .i64 a1.PeerTurn),.d (.bool a1.Up),.d (.int .i64 a1.Left),.d (.int .i64 a1.Num),.d (.int .i64 a1.Under.Kind),.d (.int .i64 a1.Under.Entry.Addr),.d (.int .i64 a1.Under.Entry.Len),.d (.int .i64 a1.Under.Entry.Cost),.d (.int .i64 a1.Under.Entry.Label),.d (slD HelloEntry.enc a1.Told),.d (.bool a1.All),.d (.int .i64 a1.Got),.d (.bool a1.Full),.d (slD HelloRoute.enc a1.Heard),.d (.int .i64 a1.Keep)]),(9000,.box 113 [.d (slD encByte a0.b),.d (.int .i64 s6.2.2.2.2)])],[⟨[(0,.ref 9000 0 0)],[]⟩]⟩) (fun s6=>x5=s6) ?_ ?_
    · (conv=>whnf);obtain ⟨x8,hx8,hx5⟩:=bd_some hx5;refine cE [(9000,9000)] 0 (spec_l41Rd_pick_c hx8) ?_;(conv=>whnf);refine andI hx5 (fun _ hx5=>?_) (fun _ hx5=>?_)
      · (conv=>whnf);obtain ⟨x9,hx9,hx5⟩:=bd_some hx5;obtain ⟨g10,hx5⟩:=gd_some hx5;refine draw_t tOk [.e 8 [(9000,.box 113 [.d (slD encByte a0.b),.d (.int .i64 x8.2.p)])] (.d (.int .i64 x9.1)) [] [(9000,.box 113 [.d (slD encByte a0.b),.d (.int .i64 x9.2.p)])]] 12 [] [0,1,3,0,8,24,63,0,128,511,1023,2047] [4095] [9000] ?_;(conv=>whnf);refine bldS (enc:=encInt) ([0,IntKind.i64.wrap (a1.Boot - 1),IntKind.i64.wrap (a1.Boot+1)]:List Int) ?_;(conv=>whnf);refine And.intro (eD [(9000,9000)] 0 (spec_l41Rd_pick_c hx9)) ?_;(conv=>whnf);refine And.intro g10 ?_;clear g10;(conv=>whnf);refine And.intro (by kernel_rfl) ?_;(conv=>whnf);obtain rfl:=Option.some.inj hx5;exact ⟨_,rfl,leX []⟩
      · (conv=>whnf);refine andI hx5 (fun _ hx5=>?_) (fun _ hx5=>?_)
        · (conv=>whnf);obtain ⟨x11,hx11,hx5⟩:=bd_some hx5;obtain ⟨g12,hx5⟩:=gd_some hx5;refine draw_t tOk [.e 4 [(9000,.box 113 [.d (slD encByte a0.b),.d (.int .i64 x8.2.p)])] (.d (.int .i64 x11.1)) [] [(9000,.box 113 [.d (slD encByte a0.b),.d (.int .i64 x11.2.p)])]] 8 [] [0,1,3,0,8,31,63,127] [255] [9000] ?_;(conv=>whnf);refine bldS (enc:=encInt) ([a1.PeerTurn,1,1000000]:List Int) ?_;(conv=>whnf);refine And.intro (eD [(9000,9000)] 0 (spec_l41Rd_pick_c hx11)) ?_;(conv=>whnf);refine And.intro g12 ?_;clear g12;(conv=>whnf);refine And.intro (by kernel_rfl) ?_;(conv=>whnf);obtain rfl:=Option.some.inj hx5;exact ⟨_,rfl,leX []⟩
        · (conv=>whnf);refine andI hx5 (fun _ hx5=>?_) (fun _ hx5=>?_)
          · (conv=>whnf);obtain ⟨x13,hx13,hx5⟩:=bd_some hx5;obtain ⟨g14,hx5⟩:=gd_some hx5;refine draw_t tOk [.e 7 [(9000,.box 113 [.d (slD encByte a0.b),.d (.int .i64 x8.2.p)])] (.d (.int .i64 x13.1)) [] [(9000,.box 113 [.d (slD encByte a0.b),.d (.int .i64 x13.2.p)])]] 11 [] [0,1,0,4,12,31,0,64,255,511,1023] [2047] [9000] ?_;(conv=>whnf);refine bldS (enc:=encInt) ([1,a1.PeerBoot,IntKind.i64.wrap (a1.PeerBoot - 1),999]:List Int) ?_;(conv=>whnf);refine And.intro (eD [(9000,9000)] 0 (spec_l41Rd_pick_c hx13)) ?_;(conv=>whnf);refine And.intro g14 ?_;clear g14;(conv=>whnf);refine And.intro (by kernel_rfl) ?_;(conv=>whnf);obtain rfl:=Option.some.inj hx5;exact ⟨_,rfl,leX []⟩
          · (conv=>whnf);refine andI hx5 (fun _ hx5=>?_) (fun _ hx5=>?_)
            · (conv=>whnf);obtain ⟨x15,hx15,hx5⟩:=bd_some hx5;obtain ⟨g16,hx5⟩:=gd_some hx5;refine draw_t tOk [.e 8 [(9000,.box 113 [.d (slD encByte a0.b),.d (.int .i64 x8.2.p)])] (.d (.int .i64 x15.1)) [] [(9000,.box 113 [.d (slD encByte a0.b),.d (.int .i64 x15.2.p)])]] 12 [] [0,1,3,0,8,24,63,0,128,511,1023,2047] [4095] [9000] ?_;(conv=>whnf);refine bldS (enc:=encInt) ([0,IntKind.i64.wrap (a1.Num - 1),IntKind.i64.wrap (a1.Num+1)]:List Int) ?_;(conv=>whnf);refine And.intro (eD [(9000,9000)] 0 (spec_l41Rd_pick_c hx15)) ?_;(conv=>whnf);refine And.intro g16 ?_;clear g16;(conv=>whnf);refine And.intro (by kernel_rfl) ?_;(conv=>whnf);obtain rfl:=Option.some.inj hx5;exact ⟨_,rfl,leX []⟩
            · (conv=>whnf);obtain rfl:=Option.some.inj hx5;exact ⟨_,rfl,leX []⟩
    · rintro _ rfl;(conv=>whnf);obtain ⟨x17,hx17,h⟩:=bd_some h;refine seq_join tOk (fun s18=>⟨0,177,[(0,.ref 9000 0 0),(3,.ref 3 0 0),(4,.ref 4 0 0),(5,.ref 5 0 0)],[],[(5,.box 45 [.d (.int .i64 a1.Peer),.d (.int .i64 a1.Name),.d (.int .i64 1),.d (.int .i64 x5.1),.d (.int .i64 x5.2.1),.d (.int .i64 x5.2.2.1),.d (.int .i64 (IntKind.i64.wrap (a1.Got+1))),.d (.int .i64 x5.2.2.2.1),.d (.int .i64 s18.2.2.2.1),.d (.int .i64 s18.2.2.2.2.1),.d (.int .i64 s18.1),.d (.int .i64 s18.2.1),.d (.int .i64 s18.2.2.1),.d (.int .i64 0)]),(4,.box 45 [.d (.int .i64 0),.d (.int .i64 0),.d (.int .i64 0),.d (.int .i64 0),.d (.int .i64 0),.d (.int .i64 0),.d (.int .i64 0),.d (.int .i64 0),.d (.int .i64 0),.d (.int .i64 0),.d (.int .i64 0),.d (.int .i64 0),.d (.int .i64 0),.d (.int .i64 0)]),(3,.box 41 [.d (.int .i64 a1.Name),.d (.int .i64 a1.Peer),.d (slD HelloKey.enc a1.Keys),.d (.int .i64 a1.Boot),.d (slD HelloEntry.enc a1.Want),.d (.int .i64 a1.Turn),.d (.int .i64 a1.PeerBoot),.d (.int .i64 a1.PeerTurn),.d (.bool a1.Up),.d (.int .i64 a1.Left),.d (.int .i64 a1.Num),.d (.int .i64 a1.Under.Kind),.d (.int .i64 a1.Under.Entry.Addr),.d (.int .i64 a1.Under.Entry.Len),.d (.int .i64 a1.Under.Entry.Cost),.d (.int .i64 a1.Under.Entry.Label),.d (slD HelloEntry.enc a1.Told),.d (.bool a1.All),.d (.int .i64 a1.Got),.d (.bool a1.Full),.d (slD HelloRoute.enc a1.Heard),.d (.int .i64 a1.Keep)]),(9000,.box 113 [.d (slD encByte a0.b),.d (.int .i64 s18.2.2.2.2.2)])],[⟨[(0,.ref 9000 0 0)],[]⟩]⟩) (fun s18=>x17=s18) ?_ ?_
      · (conv=>whnf);obtain ⟨x20,hx20,hx17⟩:=bd_some hx17;refine cE [(9000,9000)] 0 (spec_l41Rd_pick_c hx20) ?_;(conv=>whnf);refine andI hx17 (fun _ hx17=>?_) (fun _ hx17=>?_)
        · (conv=>whnf);obtain rfl:=Option.some.inj hx17;exact ⟨_,rfl,leX []⟩
        · (conv=>whnf);refine andI hx17 (fun _ hx17=>?_) (fun _ hx17=>?_)
          · (conv=>whnf);obtain ⟨x21,hx21,hx17⟩:=bd_some hx17;refine cE [(9000,9000)] 0 (spec_l46Prefix_c hx21) ?_;(conv=>whnf);refine andI hx17 (fun _ hx17=>?_) (fun _ hx17=>?_)
            · (conv=>whnf);obtain ⟨x22,hx22,hx17⟩:=bd_some hx17;obtain ⟨g23,hx17⟩:=gd_some hx17;refine draw_t tOk [.e 6 [(9000,.box 113 [.d (slD encByte a0.b),.d (.int .i64 x21.2.p)])] (.d (.int .i64 x22.1)) [] [(9000,.box 113 [.d (slD encByte a0.b),.d (.int .i64 x22.2.p)])]] 11 [] [0,1,0,0,8,24,60,127,255,511,0] [2047] [9000] ?_;(conv=>whnf);refine And.intro (eD [(9000,9000)] 0 (spec_l41Rd_pick_c hx22)) ?_;(conv=>whnf);refine And.intro g23 ?_;clear g23;(conv=>whnf);refine And.intro (by kernel_rfl) ?_;(conv=>whnf);obtain rfl:=Option.some.inj hx17;exact ⟨_,rfl,leX []⟩
            · (conv=>whnf);obtain rfl:=Option.some.inj hx17;exact ⟨_,rfl,leX []⟩
          · (conv=>whnf);refine seq_in tOk ?_;(conv=>whnf);refine andI hx17 (fun _ hx17=>?_) (fun _ hx17=>?_)
            · (conv=>whnf);refine andI hx17 (fun _ hx17=>?_) (fun _ hx17=>?_)
              · (conv=>whnf);obtain ⟨x24,hx24,hx17⟩:=bd_some hx17;refine cE [(9000,9000)] 0 (spec_l46Entry_c hx24) ?_;(conv=>whnf);obtain rfl:=Option.some.inj hx17;exact ⟨_,rfl,leX []⟩
              · (conv=>whnf);obtain rfl:=Option.some.inj hx17;exact ⟨_,rfl,leX []⟩
            · (conv=>whnf);refine andI hx17 (fun _ hx17=>?_) (fun _ hx17=>?_)
              · (conv=>whnf);obtain ⟨x25,hx25,hx17⟩:=bd_some hx17;refine cE [(9000,9000)] 0 (spec_l46Entry_c hx25) ?_;(conv=>whnf);obtain rfl:=Option.some.inj hx17;exact ⟨_,rfl,leX []⟩
              · (conv=>whnf);obtain rfl:=Option.some.inj hx17;exact ⟨_,rfl,leX []⟩
      · rintro _ rfl;(conv=>whnf);obtain ⟨x26,hx26,h⟩:=bd_some h;refine seq_join tOk (fun s27=>⟨0,177,[(0,.ref 9000 0 0),(3,.ref 3 0 0),(4,.ref 4 0 0),(5,.ref 5 0 0)],[],[(5,.box 45 [.d (.int .i64 a1.Peer),.d (.int .i64 a1.Name),.d (.int .i64 1),.d (.int .i64 x5.1),.d (.int .i64 x5.2.1),.d (.int .i64 x5.2.2.1),.d (.int .i64 s27.1),.d (.int .i64 x5.2.2.2.1),.d (.int .i64 x17.2.2.2.1),.d (.int .i64 x17.2.2.2.2.1),.d (.int .i64 x17.1),.d (.int .i64 x17.2.1),.d (.int .i64 x17.2.2.1),.d (.int .i64 0)]),(4,.box 45 [.d (.int .i64 0),.d (.int .i64 0),.d (.int .i64 0),.d (.int .i64 0),.d (.int .i64 0),.d (.int .i64 0),.d (.int .i64 0),.d (.int .i64 0),.d (.int .i64 0),.d (.int .i64 0),.d (.int .i64 0),.d (.int .i64 0),.d (.int .i64 0),.d (.int .i64 0)]),(3,.box 41 [.d (.int .i64 a1.Name),.d (.int .i64 a1.Peer),.d (slD HelloKey.enc a1.Keys),.d (.int .i64 a1.Boot),.d (slD HelloEntry.enc a1.Want),.d (.int .i64 a1.Turn),.d (.int .i64 a1.PeerBoot),.d (.int .i64 a1.PeerTurn),.d (.bool a1.Up),.d (.int .i64 a1.Left),.d (.int .i64 a1.Num),.d (.int .i64 a1.Under.Kind),.d (.int .i64 a1.Under.Entry.Addr),.d (.int .i64 a1.Under.Entry.Len),.d (.int .i64 a1.Under.Entry.Cost),.d (.int .i64 a1.Under.Entry.Label),.d (slD HelloEntry.enc a1.Told),.d (.bool a1.All),.d (.int .i64 a1.Got),.d (.bool a1.Full),.d (slD HelloRoute.enc a1.Heard),.d (.int .i64 a1.Keep)]),(9000,.box 113 [.d (slD encByte a0.b),.d (.int .i64 s27.2)])],[⟨[(0,.ref 9000 0 0)],[]⟩]⟩) (fun s27=>x26=s27) ?_ ?_
        · (conv=>whnf);obtain ⟨x29,hx29,hx26⟩:=bd_some hx26;refine cE [(9000,9000)] 0 (spec_l41Rd_pick_c hx29) ?_;(conv=>whnf);refine andI hx26 (fun _ hx26=>?_) (fun _ hx26=>?_)
          · (conv=>whnf);obtain ⟨x30,hx30,hx26⟩:=bd_some hx26;obtain ⟨g31,hx26⟩:=gd_some hx26;refine draw_t tOk [.e 7 [(9000,.box 113 [.d (slD encByte a0.b),.d (.int .i64 x29.2.p)])] (.d (.int .i64 x30.1)) [] [(9000,.box 113 [.d (slD encByte a0.b),.d (.int .i64 x30.2.p)])]] 11 [] [0,1,0,4,12,31,0,64,255,511,1023] [2047] [9000] ?_;(conv=>whnf);refine bldS (enc:=encInt) ([0,a1.Got,IntKind.i64.wrap (a1.Got+2)]:List Int) ?_;(conv=>whnf);refine And.intro (eD [(9000,9000)] 0 (spec_l41Rd_pick_c hx30)) ?_;(conv=>whnf);refine And.intro g31 ?_;clear g31;(conv=>whnf);refine And.intro (by kernel_rfl) ?_;(conv=>whnf);obtain rfl:=Option.some.inj hx26;exact ⟨_,rfl,leX []⟩
          · (conv=>whnf);obtain rfl:=Option.some.inj hx26;exact ⟨_,rfl,leX []⟩
        · rintro _ rfl;(conv=>whnf);obtain ⟨x32,hx32,h⟩:=bd_some h;refine seq_join tOk (fun s33=>⟨0,177,[(0,.ref 9000 0 0),(3,.ref 3 0 0),(4,.ref 4 0 0),(5,.ref 5 0 0)],[],[(5,.box 45 [.d (.int .i64 a1.Peer),.d (.int .i64 a1.Name),.d (.int .i64 1),.d (.int .i64 x5.1),.d (.int .i64 x5.2.1),.d (.int .i64 s33),.d (.int .i64 x26.1),.d (.int .i64 x5.2.2.2.1),.d (.int .i64 x17.2.2.2.1),.d (.int .i64 x17.2.2.2.2.1),.d (.int .i64 x17.1),.d (.int .i64 x17.2.1),.d (.int .i64 x17.2.2.1),.d (.int .i64 0)]),(4,.box 45 [.d (.int .i64 0),.d (.int .i64 0),.d (.int .i64 0),.d (.int .i64 0),.d (.int .i64 0),.d (.int .i64 0),.d (.int .i64 0),.d (.int .i64 0),.d (.int .i64 0),.d (.int .i64 0),.d (.int .i64 0),.d (.int .i64 0),.d (.int .i64 0),.d (.int .i64 0)]),(3,.box 41 [.d (.int .i64 a1.Name),.d (.int .i64 a1.Peer),.d (slD HelloKey.enc a1.Keys),.d (.int .i64 a1.Boot),.d (slD HelloEntry.enc a1.Want),.d (.int .i64 a1.Turn),.d (.int .i64 a1.PeerBoot),.d (.int .i64 a1.PeerTurn),.d (.bool a1.Up),.d (.int .i64 a1.Left),.d (.int .i64 a1.Num),.d (.int .i64 a1.Under.Kind),.d (.int .i64 a1.Under.Entry.Addr),.d (.int .i64 a1.Under.Entry.Len),.d (.int .i64 a1.Under.Entry.Cost),.d (.int .i64 a1.Under.Entry.Label),.d (slD HelloEntry.enc a1.Told),.d (.bool a1.All),.d (.int .i64 a1.Got),.d (.bool a1.Full),.d (slD HelloRoute.enc a1.Heard),.d (.int .i64 a1.Keep)]),(9000,.box 113 [.d (slD encByte a0.b),.d (.int .i64 x26.2)])],[⟨[(0,.ref 9000 0 0)],[]⟩]⟩) (fun s33=>x32=s33) ?_ ?_
          · (conv=>whnf);refine andI hx32 (fun _ hx32=>?_) (fun _ hx32=>?_)
            · (conv=>whnf);obtain rfl:=Option.some.inj hx32;exact ⟨_,rfl,leX []⟩
            · (conv=>whnf);obtain rfl:=Option.some.inj hx32;exact ⟨_,rfl,leX []⟩
          · rintro _ rfl;(conv=>whnf);obtain ⟨x35,hx35,h⟩:=bd_some h;refine seq_join tOk (fun s36=>⟨0,177,[(0,.ref 9000 0 0),(4,.ref 4 0 0),(5,.ref 5 0 0)],[],[(5,.box 45 [.d (.int .i64 a1.Peer),.d (.int .i64 a1.Name),.d (.int .i64 s36.2.1),.d (.int .i64 x5.1),.d (.int .i64 x5.2.1),.d (.int .i64 x32),.d (.int .i64 x26.1),.d (.int .i64 x5.2.2.2.1),.d (.int .i64 x17.2.2.2.1),.d (.int .i64 x17.2.2.2.2.1),.d (.int .i64 x17.1),.d (.int .i64 x17.2.1),.d (.int .i64 x17.2.2.1),.d (.int .i64 s36.1)]),(4,.box 45 [.d (.int .i64 0),.d (.int .i64 0),.d (.int .i64 0),.d (.int .i64 0),.d (.int .i64 0),.d (.int .i64 0),.d (.int .i64 0),.d (.int .i64 0),.d (.int .i64 0),.d (.int .i64 0),.d (.int .i64 0),.d (.int .i64 0),.d (.int .i64 0),.d (.int .i64 0)]),(9000,.box 113 [.d (slD encByte a0.b),.d (.int .i64 s36.2.2)])],[⟨[(0,.ref 9000 0 0)],[]⟩]⟩) (fun s36=>x35=s36) ?_ ?_
            · (conv=>whnf);refine andI hx35 (fun _ hx35=>?_) (fun _ hx35=>?_)
              · (conv=>whnf);obtain ⟨x38,hx38,hx35⟩:=bd_some hx35;obtain ⟨g39,hx35⟩:=gd_some hx35;refine draw_t tOk [.e 6 [(9000,.box 113 [.d (slD encByte a0.b),.d (.int .i64 x26.2)])] (.d (.int .i64 x38.1)) [] [(9000,.box 113 [.d (slD encByte a0.b),.d (.int .i64 x38.2.p)])]] 10 [] [0,1,0,0,8,24,60,127,255,0] [1023] [9000] ?_;(conv=>whnf);refine And.intro (eD [(9000,9000)] 0 (spec_l41Rd_pick_c hx38)) ?_;(conv=>whnf);refine And.intro g39 ?_;clear g39;(conv=>whnf);refine And.intro (by kernel_rfl) ?_;(conv=>whnf);obtain ⟨x40,hx40,hx35⟩:=bd_some hx35;refine cC 0 (spec_HelloSum_c hx40) ?_;clear hx40;(conv=>whnf);obtain rfl:=Option.some.inj hx35;exact ⟨_,rfl,leX []⟩
              · (conv=>whnf);obtain rfl:=Option.some.inj hx35;exact ⟨_,rfl,leX []⟩
            · rintro _ rfl;(conv=>whnf);refine seq_in tOk ?_;(conv=>whnf);obtain ⟨x41,hx41,h⟩:=bd_some h;refine cE [(9000,9000)] 0 (spec_l41Rd_pick_c hx41) ?_;(conv=>whnf);refine andI h (fun _ h=>?_) (fun _ h=>?_)
              · (conv=>whnf);obtain ⟨x42,hx42,h⟩:=bd_some h;refine cE [(9000,9000)] 0 (spec_l46SpoilWord_c hx42) ?_;(conv=>whnf);obtain rfl:=Option.some.inj h;exact lfE []
              · (conv=>whnf);obtain rfl:=Option.some.inj h;exact lfE []
noncomputable def spec_DrawHelloHear_m (a0:(List Int)):Option (HelloEnd × HelloWord) :=
 bd (spec_l41Open_m a0) fun x1 =>
 bd (spec_l46AnyEnd_m x1) fun x2 =>
 bd (spec_l46Word_m (⟨x1.b,x2.2.p⟩:l41Rd) x2.1) fun x3 =>
 some (x2.1,x3.1)
theorem spec_DrawHelloHear_c {a0:(List Int)} {r:HelloEnd × HelloWord} (h:spec_DrawHelloHear_m a0=some r):EffC Tryz.prog 23 [.d (slD encByte a0)] [] (.tup [.agg [.d (.int .i64 r.1.Name),.d (.int .i64 r.1.Peer),.d (slD HelloKey.enc r.1.Keys),.d (.int .i64 r.1.Boot),.d (slD HelloEntry.enc r.1.Want),.d (.int .i64 r.1.Turn),.d (.int .i64 r.1.PeerBoot),.d (.int .i64 r.1.PeerTurn),.d (.bool r.1.Up),.d (.int .i64 r.1.Left),.d (.int .i64 r.1.Num),.d (.int .i64 r.1.Under.Kind),.d (.int .i64 r.1.Under.Entry.Addr),.d (.int .i64 r.1.Under.Entry.Len),.d (.int .i64 r.1.Under.Entry.Cost),.d (.int .i64 r.1.Under.Entry.Label),.d (slD HelloEntry.enc r.1.Told),.d (.bool r.1.All),.d (.int .i64 r.1.Got),.d (.bool r.1.Full),.d (slD HelloRoute.enc r.1.Heard),.d (.int .i64 r.1.Keep)],.agg [.d (.int .i64 r.2.From),.d (.int .i64 r.2.To),.d (.int .i64 r.2.Key),.d (.int .i64 r.2.Boot),.d (.int .i64 r.2.Yours),.d (.int .i64 r.2.Turn),.d (.int .i64 r.2.Num),.d (.int .i64 r.2.Heard),.d (.int .i64 r.2.Change.Kind),.d (.int .i64 r.2.Change.Entry.Addr),.d (.int .i64 r.2.Change.Entry.Len),.d (.int .i64 r.2.Change.Entry.Cost),.d (.int .i64 r.2.Change.Entry.Label),.d (.int .i64 r.2.Sum)]]) []:=by
  refine effC_x tOk (fn:=Tryz.f23) (c:=codeOf Tryz.f23) rfl rfl ?_;unfold spec_DrawHelloHear_m at h;(conv=>whnf);obtain ⟨x1,hx1,h⟩:=bd_some h;refine cE [] 1000 (spec_l41Open_c hx1) ?_;(conv=>whnf);obtain ⟨x2,hx2,h⟩:=bd_some h;refine cE [(9000,6001)] 0 (spec_l46AnyEnd_c hx2) ?_;(conv=>whnf);obtain ⟨x3,hx3,h⟩:=bd_some h;refine draw_t tOk [.e 3 [(6001,.box 113 [.d (slD encByte x1.b),.d (.int .i64 x2.2.p)])] (.agg [.d (.int .i64 x3.1.From),.d (.int .i64 x3.1.To),.d (.int .i64 x3.1.Key),.d (.int .i64 x3.1.Boot),.d (.int .i64 x3.1.Yours),.d (.int .i64 x3.1.Turn),.d (.int .i64 x3.1.Num),.d (.int .i64 x3.1.Heard),.d (.int .i64 x3.1.Change.Kind),.d (.int .i64 x3.1.Change.Entry.Addr),.d (.int .i64 x3.1.Change.Entry.Len),.d (.int .i64 x3.1.Change.Entry.Cost),.d (.int .i64 x3.1.Change.Entry.Label),.d (.int .i64 x3.1.Sum)]) [] [(6001,.box 113 [.d (slD encByte x1.b),.d (.int .i64 x3.2.p)])]] 4 [] [0,0,0,6] [15,31] [6001] ?_;(conv=>whnf);refine And.intro (eD [(9000,6001)] 0 (spec_l46Word_c hx3)) ?_;(conv=>whnf);refine And.intro (by kernel_rfl) ?_;(conv=>whnf);obtain rfl:=Option.some.inj h;exact lfE []
noncomputable def impl_within_m (a0:Int) (a1:Int) (a2:Int):Option (Bool) :=
 some ((decide (a1≤a0)) && (decide (a0≤a2)))
theorem impl_within_c {a0:Int} {a1:Int} {a2:Int} {r:Bool} (h:impl_within_m a0 a1 a2=some r):PureC Tryz.prog 63 [.d (.int .i64 a0),.d (.int .i64 a1),.d (.int .i64 a2)] (.d (.bool r)) []:=by
  refine pureC_x tOk (fn:=Tryz.f63) (c:=codeOf Tryz.f63) rfl rfl ?_;unfold impl_within_m at h;(conv=>whnf);obtain rfl:=Option.some.inj h;exact lfP []
noncomputable def impl_HelloKeysOk_m (a0:(List HelloKey)):Option (Bool) :=
 bd (lp (σ:=Int) (β:=(Unit ⊕ Unit)) (fun s1 =>
(if (decide (s1<((a0.length:Nat):Int)))=true then
 gd ((0:Int)≤s1∧s1<((a0.length:Nat):Int)) <|
 bd (impl_within_m ((a0.getD s1.toNat default).Id) 1 9) fun x6 =>
 bd (gcall ((!x6)=false) (impl_within_m ((a0.getD s1.toNat default).Secret) 1 2147483646)) fun x7 =>
 gd ((decide (s1 > 0))=true→(((!x6) || (!x7))=false→((0:Int)≤IntKind.i64.wrap (s1 - 1)∧IntKind.i64.wrap (s1 - 1)<((a0.length:Nat):Int)))) <|
(if (((!x6) || (!x7)) || ((decide (s1 > 0)) && (decide (((a0.getD ((IntKind.i64.wrap (s1 - 1)).toNat) default).Id) ≥ ((a0.getD s1.toNat default).Id)))))=true then
 some (.inr (.inl ()))
else
 some (.inl (IntKind.i64.wrap (s1+1))))
else
 some (.inr (.inr ())))) 0) fun x4 =>
(match x4 with
| .inl d9 =>
 some false
| .inr d10 =>
 bd (impl_within_m ((a0.length:Nat):Int) 1 3) fun x11 =>
 some x11)
theorem impl_HelloKeysOk_c {a0:(List HelloKey)} {r:Bool} (h:impl_HelloKeysOk_m a0=some r):PureC Tryz.prog 64 [.d (slD HelloKey.enc a0)] (.d (.bool r)) []:=by
  refine pureC_x tOk (fn:=Tryz.f64) (c:=codeOf Tryz.f64) rfl rfl ?_;unfold impl_HelloKeysOk_m at h;(conv=>whnf);refine seq_in tOk ?_;(conv=>whnf);obtain ⟨x4,hx4,h⟩:=bd_some h;refine loop_m tOk hx4 (fun s1=>⟨0,41,[(0,.d (slD HelloKey.enc a0)),(5,.d (slD HelloKey.enc a0)),(6,.d (.int .i64 ((a0.length:Nat):Int))),(7,.d (.int .i64 s1))],[],[],[]⟩) ?_ ?_
  · exact leX []
  · clear hx4;intro s1 y2 g3 hy2;(conv=>whnf);refine seq_in tOk ?_;(conv=>whnf);refine andI g3 (fun _ g3=>?_) (fun _ g3=>?_)
    · (conv=>whnf);refine seq_in tOk ?_;(conv=>whnf);refine gdI g3 (fun g3=>?_);(conv=>whnf);obtain ⟨x6,hx6,g3⟩:=bd_some g3;obtain ⟨x7,hx7,g3⟩:=bd_some g3;obtain ⟨g8,g3⟩:=gd_some g3;refine draw_u tOk [.u 2 0 (.d (.bool x6)) [],.u 7 0 (.d (.bool x7)) []] 25 [] [0,1,3,7,15,31,63,127,255,511,1023,2047,4095,8191,16383,16383,49151,131071,262143,524287,16383,1064959,4194303,8388607,16777215] [] ?_;(conv=>whnf);refine And.intro (callD_any (impl_within_c hx6) (by kernel_rfl)) ?_;(conv=>whnf);refine And.intro (callDG_if rfl rfl rfl rfl (by intro c0; exact impl_within_c (gcall_some hx7 c0))) ?_;(conv=>whnf);refine And.intro g8 ?_;clear g8;(conv=>whnf);refine And.intro (by kernel_rfl) ?_;(conv=>whnf);refine andI g3 (fun _ g3=>?_) (fun _ g3=>?_)
      · (conv=>whnf);obtain rfl:=Option.some.inj g3;obtain rfl:=hy2 _ rfl;obtain rfl:=Option.some.inj h;exact lfP []
      · (conv=>whnf);obtain rfl:=Option.some.inj g3;exact ⟨_,rfl,leX []⟩
    · (conv=>whnf);obtain rfl:=Option.some.inj g3;obtain rfl:=hy2 _ rfl;obtain ⟨x11,hx11,h⟩:=bd_some h;refine cC 0 (impl_within_c hx11) ?_;clear hx11;(conv=>whnf);obtain rfl:=Option.some.inj h;exact lfP []
noncomputable def impl_HelloEntry_prefix_m (a0:HelloEntry):Option (NetPrefix) :=
 some (⟨a0.Addr,a0.Len⟩:NetPrefix)
theorem impl_HelloEntry_prefix_c {a0:HelloEntry} {r:NetPrefix} (h:impl_HelloEntry_prefix_m a0=some r):PureC Tryz.prog 109 [.agg [.d (.int .i64 a0.Addr),.d (.int .i64 a0.Len),.d (.int .i64 a0.Cost),.d (.int .i64 a0.Label)]] (.agg [.d (.int .i64 r.Addr),.d (.int .i64 r.Len)]) []:=by
  refine pureC_x tOk (fn:=Tryz.f109) (c:=codeOf Tryz.f109) rfl rfl ?_;unfold impl_HelloEntry_prefix_m at h;(conv=>whnf);obtain rfl:=Option.some.inj h;exact lfP []
noncomputable def impl_NetPrefix_size_m (a0:NetPrefix):Option (Int) :=
 gd ((0:Int)≤(IntKind.i64.wrap (16 - a0.Len))) <|
 some (IntKind.i64.wrap (1*2 ^ min (IntKind.i64.wrap (16 - a0.Len):Int).toNat IntKind.i64.bits))
theorem impl_NetPrefix_size_c {a0:NetPrefix} {r:Int} (h:impl_NetPrefix_size_m a0=some r):PureC Tryz.prog 139 [.agg [.d (.int .i64 a0.Addr),.d (.int .i64 a0.Len)]] (.d (.int .i64 r)) []:=by
  refine pureC_x tOk (fn:=Tryz.f139) (c:=codeOf Tryz.f139) rfl rfl ?_;unfold impl_NetPrefix_size_m at h;(conv=>whnf);refine gdI h (fun h=>?_);(conv=>whnf);obtain rfl:=Option.some.inj h;exact lfP []
noncomputable def impl_NetOk_m (a0:NetPrefix):Option (Bool) :=
 bd (impl_within_m a0.Len 0 16) fun x1 =>
 bd (gcall (x1=true) (impl_within_m a0.Addr 0 65535)) fun x2 =>
 bd (gcall ((x1 && x2)=true) (impl_NetPrefix_size_m a0)) fun x3 =>
 gd ((x1 && x2)=true→((x3:Int) ≠ 0)) <|
 some ((x1 && x2) && (((a0.Addr:Int).tmod x3) == 0))
theorem impl_NetOk_c {a0:NetPrefix} {r:Bool} (h:impl_NetOk_m a0=some r):PureC Tryz.prog 108 [.agg [.d (.int .i64 a0.Addr),.d (.int .i64 a0.Len)]] (.d (.bool r)) []:=by
  refine pureC_x tOk (fn:=Tryz.f108) (c:=codeOf Tryz.f108) rfl rfl ?_;unfold impl_NetOk_m at h;(conv=>whnf);obtain ⟨x1,hx1,h⟩:=bd_some h;obtain ⟨x2,hx2,h⟩:=bd_some h;obtain ⟨x3,hx3,h⟩:=bd_some h;obtain ⟨g4,h⟩:=gd_some h;refine draw_u tOk [.u 2 0 (.d (.bool x1)) [],.u 6 0 (.d (.bool x2)) [],.u 12 0 (.d (.int .i64 x3)) []] 17 [] [0,1,3,7,15,31,63,127,255,511,1023,511,2559,8191,16383,32767,65535] [] ?_;(conv=>whnf);refine And.intro (callD_any (impl_within_c hx1) (by kernel_rfl)) ?_;(conv=>whnf);refine And.intro (callDG_if rfl rfl rfl rfl (by intro c0; exact impl_within_c (gcall_some hx2 c0))) ?_;(conv=>whnf);refine And.intro (callDG_if rfl rfl rfl rfl (by intro c0; exact impl_NetPrefix_size_c (gcall_some hx3 c0))) ?_;(conv=>whnf);refine And.intro g4 ?_;clear g4;(conv=>whnf);refine And.intro (by kernel_rfl) ?_;(conv=>whnf);obtain rfl:=Option.some.inj h;exact lfP []
noncomputable def impl_HelloEntry_ok_m (a0:HelloEntry):Option (Bool) :=
 bd (impl_HelloEntry_prefix_m a0) fun x1 =>
 bd (impl_NetOk_m x1) fun x2 =>
 bd (gcall (x2=true) (impl_within_m a0.Cost 1 255)) fun x3 =>
 bd (gcall ((x2 && x3)=true) (impl_within_m a0.Label 0 1000)) fun x4 =>
 some ((x2 && x3) && x4)
theorem impl_HelloEntry_ok_c {a0:HelloEntry} {r:Bool} (h:impl_HelloEntry_ok_m a0=some r):PureC Tryz.prog 107 [.agg [.d (.int .i64 a0.Addr),.d (.int .i64 a0.Len),.d (.int .i64 a0.Cost),.d (.int .i64 a0.Label)]] (.d (.bool r)) []:=by
  refine pureC_x tOk (fn:=Tryz.f107) (c:=codeOf Tryz.f107) rfl rfl ?_;unfold impl_HelloEntry_ok_m at h;(conv=>whnf);obtain ⟨x1,hx1,h⟩:=bd_some h;refine cC 0 (impl_HelloEntry_prefix_c hx1) ?_;clear hx1;(conv=>whnf);obtain ⟨x2,hx2,h⟩:=bd_some h;refine cC 0 (impl_NetOk_c hx2) ?_;clear hx2;(conv=>whnf);obtain ⟨x3,hx3,h⟩:=bd_some h;refine cG (fun c0=>impl_within_c (gcall_some hx3 c0)) ?_;(conv=>whnf);obtain ⟨x4,hx4,h⟩:=bd_some h;refine cG (fun c0=>impl_within_c (gcall_some hx4 c0)) ?_;(conv=>whnf);obtain rfl:=Option.some.inj h;exact lfP []
noncomputable def impl_HelloChange_ok_m (a0:HelloChange):Option (Bool) :=
 bd (α:=Bool) ((if (a0.Kind == 0)=true then
 some (a0.Kind == 0)
else
 some (a0.Kind == 3))) fun x1 =>
(if x1=true then
 some ((a0.Entry.Addr == 0) && ((a0.Entry.Len == 0) && ((a0.Entry.Cost == 0) && ((a0.Entry.Label == 0) && true))))
else
(if (a0.Kind == 1)=true then
 bd (impl_HelloEntry_ok_m a0.Entry) fun x4 =>
 some x4
else
(if (a0.Kind == 2)=true then
 bd (impl_HelloEntry_prefix_m a0.Entry) fun x5 =>
 bd (impl_NetOk_m x5) fun x6 =>
 some ((x6 && (a0.Entry.Cost == 0)) && (a0.Entry.Label == 0))
else
 some false)))
theorem impl_HelloChange_ok_c {a0:HelloChange} {r:Bool} (h:impl_HelloChange_ok_m a0=some r):PureC Tryz.prog 65 [.agg [.d (.int .i64 a0.Kind),.d (.int .i64 a0.Entry.Addr),.d (.int .i64 a0.Entry.Len),.d (.int .i64 a0.Entry.Cost),.d (.int .i64 a0.Entry.Label)]] (.d (.bool r)) []:=by
  refine pureC_x tOk (fn:=Tryz.f65) (c:=codeOf Tryz.f65) rfl rfl ?_;unfold impl_HelloChange_ok_m at h;(conv=>whnf);refine seq_in tOk ?_;(conv=>whnf);obtain ⟨x1,hx1,h⟩:=bd_some h;refine seq_join tOk (fun s2=>⟨0,35,[(1,.ref 1 0 0),(4,.d (.int .i64 a0.Kind)),(5,.d (.bool s2))],[],[(1,.box 38 [.d (.int .i64 a0.Kind),.d (.int .i64 a0.Entry.Addr),.d (.int .i64 a0.Entry.Len),.d (.int .i64 a0.Entry.Cost),.d (.int .i64 a0.Entry.Label)])],[]⟩) (fun s2=>x1=s2) ?_ ?_
  · (conv=>whnf);refine andI hx1 (fun _ hx1=>?_) (fun _ hx1=>?_)
    · (conv=>whnf);obtain rfl:=Option.some.inj hx1;exact ⟨_,rfl,leX []⟩
    · (conv=>whnf);obtain rfl:=Option.some.inj hx1;exact ⟨_,rfl,leX []⟩
  · rintro _ rfl;(conv=>whnf);refine andI h (fun _ h=>?_) (fun _ h=>?_)
    · (conv=>whnf);obtain rfl:=Option.some.inj h;exact lfP []
    · (conv=>whnf);refine andI h (fun _ h=>?_) (fun _ h=>?_)
      · (conv=>whnf);obtain ⟨x4,hx4,h⟩:=bd_some h;refine cC 0 (impl_HelloEntry_ok_c hx4) ?_;clear hx4;(conv=>whnf);obtain rfl:=Option.some.inj h;exact lfP []
      · (conv=>whnf);refine andI h (fun _ h=>?_) (fun _ h=>?_)
        · (conv=>whnf);obtain ⟨x5,hx5,h⟩:=bd_some h;refine cC 0 (impl_HelloEntry_prefix_c hx5) ?_;clear hx5;(conv=>whnf);obtain ⟨x6,hx6,h⟩:=bd_some h;refine cC 0 (impl_NetOk_c hx6) ?_;clear hx6;(conv=>whnf);obtain rfl:=Option.some.inj h;exact lfP []
        · (conv=>whnf);obtain rfl:=Option.some.inj h;exact lfP []
noncomputable def impl_comparePrefix_m (a0:NetPrefix) (a1:NetPrefix):Option (Int) :=
(if (a0.Addr != a1.Addr)=true then
 some (IntKind.i64.wrap (a0.Addr - a1.Addr))
else
 some (IntKind.i64.wrap (a0.Len - a1.Len)))
theorem impl_comparePrefix_c {a0:NetPrefix} {a1:NetPrefix} {r:Int} (h:impl_comparePrefix_m a0 a1=some r):PureC Tryz.prog 110 [.agg [.d (.int .i64 a0.Addr),.d (.int .i64 a0.Len)],.agg [.d (.int .i64 a1.Addr),.d (.int .i64 a1.Len)]] (.d (.int .i64 r)) []:=by
  refine pureC_x tOk (fn:=Tryz.f110) (c:=codeOf Tryz.f110) rfl rfl ?_;unfold impl_comparePrefix_m at h;(conv=>whnf);refine seq_in tOk ?_;(conv=>whnf);refine andI h (fun _ h=>?_) (fun _ h=>?_)
  · (conv=>whnf);obtain rfl:=Option.some.inj h;exact lfP []
  · (conv=>whnf);obtain rfl:=Option.some.inj h;exact lfP []
noncomputable def impl_HelloTableOk_m (a0:(List HelloEntry)):Option (Bool) :=
 bd (lp (σ:=Int) (β:=(Unit ⊕ Unit)) (fun s1 =>
(if (decide (s1<((a0.length:Nat):Int)))=true then
 gd ((0:Int)≤s1∧s1<((a0.length:Nat):Int)) <|
 bd (impl_HelloEntry_ok_m (a0.getD s1.toNat default)) fun x6 =>
 gd ((decide (s1 > 0))=true→((!x6)=false→((0:Int)≤IntKind.i64.wrap (s1 - 1)∧IntKind.i64.wrap (s1 - 1)<((a0.length:Nat):Int)))) <|
 bd (gcall ((decide (s1 > 0))=true∧(!x6)=false) (impl_HelloEntry_prefix_m (a0.getD ((IntKind.i64.wrap (s1 - 1)).toNat) default))) fun x8 =>
 bd (gcall ((decide (s1 > 0))=true∧(!x6)=false) (impl_HelloEntry_prefix_m (a0.getD s1.toNat default))) fun x9 =>
 bd (gcall ((decide (s1 > 0))=true∧(!x6)=false) (impl_comparePrefix_m x8 x9)) fun x10 =>
(if ((!x6) || ((decide (s1 > 0)) && (decide (x10 ≥ 0))))=true then
 some (.inr (.inl ()))
else
 some (.inl (IntKind.i64.wrap (s1+1))))
else
 some (.inr (.inr ())))) 0) fun x4 =>
(match x4 with
| .inl d11 =>
 some false
| .inr d12 =>
 some (decide (((a0.length:Nat):Int)≤8)))
theorem impl_HelloTableOk_c {a0:(List HelloEntry)} {r:Bool} (h:impl_HelloTableOk_m a0=some r):PureC Tryz.prog 66 [.d (slD HelloEntry.enc a0)] (.d (.bool r)) []:=by
  refine pureC_x tOk (fn:=Tryz.f66) (c:=codeOf Tryz.f66) rfl rfl ?_;unfold impl_HelloTableOk_m at h;(conv=>whnf);refine seq_in tOk ?_;(conv=>whnf);obtain ⟨x4,hx4,h⟩:=bd_some h;refine loop_m tOk hx4 (fun s1=>⟨0,35,[(0,.d (slD HelloEntry.enc a0)),(5,.d (slD HelloEntry.enc a0)),(6,.d (.int .i64 ((a0.length:Nat):Int))),(7,.d (.int .i64 s1))],[],[],[]⟩) ?_ ?_
  · exact leX []
  · clear hx4;intro s1 y2 g3 hy2;(conv=>whnf);refine seq_in tOk ?_;(conv=>whnf);refine andI g3 (fun _ g3=>?_) (fun _ g3=>?_)
    · (conv=>whnf);refine seq_in tOk ?_;(conv=>whnf);refine gdI g3 (fun g3=>?_);(conv=>whnf);obtain ⟨x6,hx6,g3⟩:=bd_some g3;obtain ⟨g7,g3⟩:=gd_some g3;obtain ⟨x8,hx8,g3⟩:=bd_some g3;obtain ⟨x9,hx9,g3⟩:=bd_some g3;obtain ⟨x10,hx10,g3⟩:=bd_some g3;refine draw_u tOk [.u 1 0 (.d (.bool x6)) [],.u 12 0 (.agg [.d (.int .i64 x8.Addr),.d (.int .i64 x8.Len)]) [],.u 14 0 (.agg [.d (.int .i64 x9.Addr),.d (.int .i64 x9.Len)]) [],.u 15 0 (.d (.int .i64 x10)) []] 19 [] [0,1,3,7,15,31,63,127,127,383,1023,2047,4095,127,16383,32767,65535,131071,262143] [] ?_;(conv=>whnf);refine And.intro (callD_any (impl_HelloEntry_ok_c hx6) (by kernel_rfl)) ?_;(conv=>whnf);refine And.intro g7 ?_;clear g7;(conv=>whnf);refine And.intro (callDG_if rfl rfl rfl rfl (by intro c0 c1; exact impl_HelloEntry_prefix_c (gcall_some hx8 ⟨c0,c1⟩))) ?_;(conv=>whnf);refine And.intro (callDG_if rfl rfl rfl rfl (by intro c0 c1; exact impl_HelloEntry_prefix_c (gcall_some hx9 ⟨c0,c1⟩))) ?_;(conv=>whnf);refine And.intro (callDG_if rfl rfl rfl rfl (by intro c0 c1; exact impl_comparePrefix_c (gcall_some hx10 ⟨c0,c1⟩))) ?_;(conv=>whnf);refine And.intro (by kernel_rfl) ?_;(conv=>whnf);refine andI g3 (fun _ g3=>?_) (fun _ g3=>?_)
      · (conv=>whnf);obtain rfl:=Option.some.inj g3;obtain rfl:=hy2 _ rfl;obtain rfl:=Option.some.inj h;exact lfP []
      · (conv=>whnf);obtain rfl:=Option.some.inj g3;exact ⟨_,rfl,leX []⟩
    · (conv=>whnf);obtain rfl:=Option.some.inj g3;obtain rfl:=hy2 _ rfl;obtain rfl:=Option.some.inj h;exact lfP []
noncomputable def impl_clone_HelloEntry_m (a0:(List HelloEntry)):Option ((List HelloEntry)) :=
 gd ((0:Int)≤0∧0≤((a0.length:Nat):Int)∧((a0.length:Nat):Int)*32≤140737488355328∧((a0.length:Nat):Int)≤140737488355328) <|
 gd ((((List.replicate (0:Int).toNat (default:HelloEntry)).length)+(a0.length))*(32+1)≤70368744177664) <|
 some ((List.replicate (0:Int).toNat (default:HelloEntry)) ++ a0)
theorem impl_clone_HelloEntry_c {a0:(List HelloEntry)} {r:(List HelloEntry)} (h:impl_clone_HelloEntry_m a0=some r):PureC Tryz.prog 87 [.d (slD HelloEntry.enc a0)] (.osl 5001 0 r.length) [⟨5001,36,4,r.length,rows HelloEntry.enc r⟩]:=by
  refine pureC_x tOk (fn:=Tryz.f87) (c:=codeOf Tryz.f87) rfl rfl ?_;unfold impl_clone_HelloEntry_m at h;(conv=>whnf);obtain ⟨g2,h⟩:=gd_some h;refine And.intro g2 ?_;clear g2;refine ⟨(List.replicate (0:Int).toNat (default:HelloEntry)).length,rows HelloEntry.enc (List.replicate (0:Int).toNat (default:HelloEntry)),by simp,make_rows rfl,?_⟩;(conv=>whnf);refine gdI h (fun h=>?_);refine appS (enc:=HelloEntry.enc) (xs:=(List.replicate (0:Int).toNat (default:HelloEntry))) (ys:=a0) ?_;(conv=>whnf);obtain rfl:=Option.some.inj h;exact lfP [.s [(5,5001),(5001,5)]]
noncomputable def impl_findEntry_1_m (a0:HelloEntry) (a1:NetPrefix):Option (Int) :=
 bd (impl_HelloEntry_prefix_m a0) fun x1 =>
 bd (impl_comparePrefix_m x1 a1) fun x2 =>
 some x2
theorem impl_findEntry_1_c {a0:HelloEntry} {a1:NetPrefix} {r:Int} (h:impl_findEntry_1_m a0 a1=some r):PureC Tryz.prog 141 [.agg [.d (.int .i64 a0.Addr),.d (.int .i64 a0.Len),.d (.int .i64 a0.Cost),.d (.int .i64 a0.Label)],.agg [.d (.int .i64 a1.Addr),.d (.int .i64 a1.Len)]] (.d (.int .i64 r)) []:=by
  refine pureC_x tOk (fn:=Tryz.f141) (c:=codeOf Tryz.f141) rfl rfl ?_;unfold impl_findEntry_1_m at h;(conv=>whnf);obtain ⟨x1,hx1,h⟩:=bd_some h;obtain ⟨x2,hx2,h⟩:=bd_some h;refine draw_u tOk [.u 1 0 (.agg [.d (.int .i64 x1.Addr),.d (.int .i64 x1.Len)]) [],.u 3 0 (.d (.int .i64 x2)) []] 5 [] [0,1,0,7,15] [] ?_;(conv=>whnf);refine And.intro (callD_any (impl_HelloEntry_prefix_c hx1) (by kernel_rfl)) ?_;(conv=>whnf);refine And.intro (callD_any (impl_comparePrefix_c hx2) (by kernel_rfl)) ?_;(conv=>whnf);refine And.intro (by kernel_rfl) ?_;(conv=>whnf);obtain rfl:=Option.some.inj h;exact lfP []
noncomputable def slices_BinarySearchFunc_HelloEntry_HelloEntry_NetPrefix_impl_findEntry_1_m (a0:(List HelloEntry)) (a1:NetPrefix):Option (Int × Bool) :=
 bd (lp (σ:=Int × Int) (β:=(Int)) (fun s1 =>
(if (decide (s1.2<s1.1))=true then
 gd ((0:Int)≤1) <|
 gd ((0:Int)≤IntKind.i64.wrap ((IntKind.u64.wrap (IntKind.i64.wrap (s1.2+s1.1)):Int).fdiv (2 ^ min (1:Int).toNat IntKind.u64.bits))∧IntKind.i64.wrap ((IntKind.u64.wrap (IntKind.i64.wrap (s1.2+s1.1)):Int).fdiv (2 ^ min (1:Int).toNat IntKind.u64.bits))<((a0.length:Nat):Int)) <|
 bd (impl_findEntry_1_m (a0.getD ((IntKind.i64.wrap ((IntKind.u64.wrap (IntKind.i64.wrap (s1.2+s1.1)):Int).fdiv (2 ^ min (1:Int).toNat IntKind.u64.bits))).toNat) default) a1) fun x7 =>
(if (decide (x7<0))=true then
 some (.inl (s1.1,IntKind.i64.wrap ((IntKind.i64.wrap ((IntKind.u64.wrap (IntKind.i64.wrap (s1.2+s1.1)):Int).fdiv (2 ^ min (1:Int).toNat IntKind.u64.bits)))+1)))
else
 some (.inl (IntKind.i64.wrap ((IntKind.u64.wrap (IntKind.i64.wrap (s1.2+s1.1)):Int).fdiv (2 ^ min (1:Int).toNat IntKind.u64.bits)),s1.2)))
else
 some (.inr s1.2))) (((a0.length:Nat):Int),0)) fun x4 =>
 gd ((decide (x4<((a0.length:Nat):Int)))=true→((0:Int)≤x4∧x4<((a0.length:Nat):Int))) <|
 bd (gcall ((decide (x4<((a0.length:Nat):Int)))=true) (impl_findEntry_1_m (a0.getD x4.toNat default) a1)) fun x10 =>
 some (x4,((decide (x4<((a0.length:Nat):Int))) && (x10 == 0)))
theorem slices_BinarySearchFunc_HelloEntry_HelloEntry_NetPrefix_impl_findEntry_1_c {a0:(List HelloEntry)} {a1:NetPrefix} {r:Int × Bool} (h:slices_BinarySearchFunc_HelloEntry_HelloEntry_NetPrefix_impl_findEntry_1_m a0 a1=some r):PureC Tryz.prog 140 [.d (slD HelloEntry.enc a0),.agg [.d (.int .i64 a1.Addr),.d (.int .i64 a1.Len)],.fn 141 []] (.tup [.d (.int .i64 r.1),.d (.bool r.2)]) []:=by
  refine pureC_x tOk (fn:=Tryz.f140) (c:=codeOf Tryz.f140) rfl rfl ?_;unfold slices_BinarySearchFunc_HelloEntry_HelloEntry_NetPrefix_impl_findEntry_1_m at h;(conv=>whnf);refine seq_in tOk ?_;(conv=>whnf);obtain ⟨x4,hx4,h⟩:=bd_some h;refine loop_m tOk hx4 (fun s1=>⟨0,49,[(0,.d (slD HelloEntry.enc a0)),(2,.fn 141 []),(4,.ref 4 0 0),(8,.d (.int .i64 ((a0.length:Nat):Int))),(9,.d (.int .i64 s1.2)),(10,.d (.int .i64 s1.1))],[],[(4,.box 118 [.d (.int .i64 a1.Addr),.d (.int .i64 a1.Len)])],[]⟩) ?_ ?_
  · exact leX []
  · clear hx4;intro s1 y2 g3 hy2;(conv=>whnf);refine seq_in tOk ?_;(conv=>whnf);refine andI g3 (fun _ g3=>?_) (fun _ g3=>?_)
    · (conv=>whnf);refine gdI g3 (fun g3=>?_);(conv=>whnf);obtain ⟨g6,g3⟩:=gd_some g3;obtain ⟨x7,hx7,g3⟩:=bd_some g3;refine draw_u tOk [.u 6 0 (.d (.int .i64 x7)) []] 8 [] [0,0,0,6,14,0,63,127] [] ?_;(conv=>whnf);refine And.intro g6 ?_;clear g6;(conv=>whnf);refine And.intro (callD_any (impl_findEntry_1_c hx7) (by kernel_rfl)) ?_;(conv=>whnf);refine And.intro (by kernel_rfl) ?_;(conv=>whnf);refine andI g3 (fun _ g3=>?_) (fun _ g3=>?_)
      · (conv=>whnf);obtain rfl:=Option.some.inj g3;exact ⟨_,rfl,leX []⟩
      · (conv=>whnf);obtain rfl:=Option.some.inj g3;exact ⟨_,rfl,leX []⟩
    · (conv=>whnf);obtain rfl:=Option.some.inj g3;obtain rfl:=hy2 _ rfl;obtain ⟨g9,h⟩:=gd_some h;obtain ⟨x10,hx10,h⟩:=bd_some h;refine draw_u tOk [.u 11 0 (.d (.int .i64 x10)) []] 16 [] [0,0,0,6,14,30,30,30,222,478,30,2046,4094,8190,4095,32767] [] ?_;(conv=>whnf);refine And.intro g9 ?_;clear g9;(conv=>whnf);refine And.intro (callDG_if rfl rfl rfl rfl (by intro c0; exact impl_findEntry_1_c (gcall_some hx10 c0))) ?_;(conv=>whnf);refine And.intro (by kernel_rfl) ?_;(conv=>whnf);obtain rfl:=Option.some.inj h;exact lfP []
noncomputable def impl_findEntry_m (a0:(List HelloEntry)) (a1:NetPrefix):Option (Int × Bool) :=
 bd (slices_BinarySearchFunc_HelloEntry_HelloEntry_NetPrefix_impl_findEntry_1_m a0 a1) fun x1 =>
 some (x1.1,x1.2)
theorem impl_findEntry_c {a0:(List HelloEntry)} {a1:NetPrefix} {r:Int × Bool} (h:impl_findEntry_m a0 a1=some r):PureC Tryz.prog 111 [.d (slD HelloEntry.enc a0),.agg [.d (.int .i64 a1.Addr),.d (.int .i64 a1.Len)]] (.tup [.d (.int .i64 r.1),.d (.bool r.2)]) []:=by
  refine pureC_x tOk (fn:=Tryz.f111) (c:=codeOf Tryz.f111) rfl rfl ?_;unfold impl_findEntry_m at h;(conv=>whnf);obtain ⟨x1,hx1,h⟩:=bd_some h;refine cC 0 (slices_BinarySearchFunc_HelloEntry_HelloEntry_NetPrefix_impl_findEntry_1_c hx1) ?_;clear hx1;(conv=>whnf);obtain rfl:=Option.some.inj h;exact lfP []
noncomputable def slices_Insert_HelloEntry_HelloEntry_m (a0:(List HelloEntry)) (a1:Int) (a2:(List HelloEntry)):Option ((List HelloEntry)) :=
 gd ((0≤a1∧a1≤a0.length)∧0<a2.length∧(a0.length+a2.length)*(32+1)≤70368744177664) <|
 some (insL a0 a1.toNat a2)
theorem slices_Insert_HelloEntry_HelloEntry_c {a0:(List HelloEntry)} {a1:Int} {a2:(List HelloEntry)} {r:(List HelloEntry)} (h:slices_Insert_HelloEntry_HelloEntry_m a0 a1 a2=some r):EffC Tryz.prog 112 [.osl 9000 0 a0.length,.d (.int .i64 a1),.osl 9001 0 a2.length] [(9000,.arr 36 4 a0.length (rows HelloEntry.enc a0)),(9001,.arr 36 4 a2.length (rows HelloEntry.enc a2))] (.osl 5001 0 r.length) [(5001,.arr 36 4 r.length (rows HelloEntry.enc r))]:=by
  unfold slices_Insert_HelloEntry_HelloEntry_m at h;have L:LIns Tryz.prog ⟨fun x=>match x with | 22=>112 | 29=>142 | 30=>143 | _=>0,fun x=>match x with | 0=>0 | 3=>3 | 4=>4 | 9=>36 | 24=>35 | _=>0,fun x=>x⟩ 4 32 (.agg #[.int .i64 0,.int .i64 0,.int .i64 0,.int .i64 0]):=⟨by kernel_rfl,⟨Tryz.f112.name,by kernel_rfl,by kernel_rfl⟩,⟨Tryz.f142,by kernel_rfl,by kernel_rfl,by kernel_rfl,by kernel_rfl,by kernel_rfl⟩,by kernel_rfl,fun w=>by kernel_rfl,fun w=>by kernel_rfl,fun w=>by kernel_rfl,by kernel_rfl,fun w=>by kernel_rfl,fun w=>by kernel_rfl,fun w=>by kernel_rfl,by kernel_rfl,fun w=>by kernel_rfl,fun w=>by kernel_rfl,fun w=>by kernel_rfl,by kernel_rfl,fun w=>by kernel_rfl,fun w=>by kernel_rfl,fun w=>by kernel_rfl,⟨_,rfl,rfl,rfl,rfl⟩,fun w=>by kernel_rfl,by kernel_rfl,fun u hu=>List.all_eq_true.1 (by kernel_rfl:(List.all (Value.cells (.agg #[.int .i64 0,.int .i64 0,.int .i64 0,.int .i64 0])).toList Value.oneCell')=true) u hu,by decide⟩;obtain ⟨g,h⟩:=gd_some h;obtain rfl:=Option.some.inj h;have k:=effC_ins (t:=36) (enc:=HelloEntry.enc) L (canOf (fn:=Tryz.f112) (c:=codeOf Tryz.f112) rfl rfl (by kernel_rfl)) (fun _=>rfl) (xs:=a0) (ys:=a2) (i:=a1.toNat) (by omega) g.2.1 g.2.2;rw [show ((a1.toNat:Nat):Int)=a1 by omega] at k;exact k
noncomputable def slices_Delete_HelloEntry_HelloEntry_m (a0:(List HelloEntry)) (a1:Int) (a2:Int):Option ((List HelloEntry)) :=
 gd (0≤a1∧a1≤a2∧a2≤a0.length) <|
 some (delL a0 a1.toNat a2.toNat)
theorem slices_Delete_HelloEntry_HelloEntry_c {a0:(List HelloEntry)} {a1:Int} {a2:Int} {r:(List HelloEntry)} (h:slices_Delete_HelloEntry_HelloEntry_m a0 a1 a2=some r):EffC Tryz.prog 113 [.osl 9000 0 a0.length,.d (.int .i64 a1),.d (.int .i64 a2)] [(9000,.arr 36 4 a0.length (rows HelloEntry.enc a0))] (.osl 5001 0 r.length) [(5001,.arr 36 4 r.length (rows HelloEntry.enc r))]:=by
  unfold slices_Delete_HelloEntry_HelloEntry_m at h;have L:LDel Tryz.prog ⟨fun x=>match x with | 45=>113 | _=>0,fun x=>match x with | 0=>0 | 3=>3 | 4=>4 | 22=>35 | 23=>36 | _=>0,fun x=>x⟩ 4 (.agg #[.int .i64 0,.int .i64 0,.int .i64 0,.int .i64 0]):=⟨by kernel_rfl,⟨Tryz.f113.name,by kernel_rfl,by kernel_rfl⟩,by kernel_rfl,fun w=>by kernel_rfl,fun w=>by kernel_rfl,fun w=>by kernel_rfl,by kernel_rfl,fun w=>by kernel_rfl,fun w=>by kernel_rfl,fun w=>by kernel_rfl,by kernel_rfl,fun w=>by kernel_rfl,fun w=>by kernel_rfl,fun w=>by kernel_rfl,by kernel_rfl,fun w=>by kernel_rfl,fun w=>by kernel_rfl,fun w=>by kernel_rfl,⟨_,rfl,rfl⟩,fun w=>by kernel_rfl,fun w=>by kernel_rfl,by kernel_rfl,fun u hu=>List.all_eq_true.1 (by kernel_rfl:(List.all (Value.cells (.agg #[.int .i64 0,.int .i64 0,.int .i64 0,.int .i64 0])).toList Value.oneCell')=true) u hu⟩;obtain ⟨g,h⟩:=gd_some h;obtain rfl:=Option.some.inj h;have k:=effC_del (t:=36) (enc:=HelloEntry.enc) L (canOf (fn:=Tryz.f113) (c:=codeOf Tryz.f113) rfl rfl (by kernel_rfl)) (fun _=>rfl) (xs:=a0) (i:=a1.toNat) (j:=a2.toNat) (by omega) (by omega);rw [show ((a1.toNat:Nat):Int)=a1 by omega,show ((a2.toNat:Nat):Int)=a2 by omega] at k;exact k
noncomputable def impl_changed_m (a0:(List HelloEntry)) (a1:HelloChange):Option ((List HelloEntry)) :=
 bd (impl_clone_HelloEntry_m a0) fun x1 =>
 bd (impl_HelloEntry_prefix_m a1.Entry) fun x2 =>
 bd (impl_findEntry_m x1 x2) fun x3 =>
(if ((a1.Kind == 1) && x3.2)=true then
 gd ((0:Int)≤x3.1∧x3.1<((x1.length:Nat):Int)) <|
 some (x1.set x3.1.toNat a1.Entry)
else
(if (a1.Kind == 1)=true then
 bd (slices_Insert_HelloEntry_HelloEntry_m x1 x3.1 ([a1.Entry]:List HelloEntry)) fun x5 =>
 some x5
else
(if ((a1.Kind == 2) && x3.2)=true then
 bd (slices_Delete_HelloEntry_HelloEntry_m x1 x3.1 (IntKind.i64.wrap (x3.1+1))) fun x6 =>
 some x6
else
 some x1)))
theorem impl_changed_c {a0:(List HelloEntry)} {a1:HelloChange} {r:(List HelloEntry)} (h:impl_changed_m a0 a1=some r):PureC Tryz.prog 67 [.d (slD HelloEntry.enc a0),.agg [.d (.int .i64 a1.Kind),.d (.int .i64 a1.Entry.Addr),.d (.int .i64 a1.Entry.Len),.d (.int .i64 a1.Entry.Cost),.d (.int .i64 a1.Entry.Label)]] (.osl 5001 0 r.length) [⟨5001,36,4,r.length,rows HelloEntry.enc r⟩]:=by
  refine pureC_x tOk (fn:=Tryz.f67) (c:=codeOf Tryz.f67) rfl rfl ?_;unfold impl_changed_m at h;(conv=>whnf);obtain ⟨x1,hx1,h⟩:=bd_some h;refine cC 1000 (impl_clone_HelloEntry_c hx1) ?_;clear hx1;(conv=>whnf);obtain ⟨x2,hx2,h⟩:=bd_some h;refine cC 0 (impl_HelloEntry_prefix_c hx2) ?_;clear hx2;(conv=>whnf);obtain ⟨x3,hx3,h⟩:=bd_some h;refine cC 0 (impl_findEntry_c hx3) ?_;clear hx3;(conv=>whnf);refine seq_in tOk ?_;(conv=>whnf);refine andI h (fun _ h=>?_) (fun _ h=>?_)
  · (conv=>whnf);refine gdI h (fun h=>?_);(conv=>whnf);refine ⟨rows HelloEntry.enc (x1.set x3.1.toNat a1.Entry),store_rows' lenA rfl,?_⟩;(conv=>whnf);obtain rfl:=Option.some.inj h;exact lfP [.s [(5001,6001),(6001,5001)]]
  · (conv=>whnf);refine andI h (fun _ h=>?_) (fun _ h=>?_)
    · (conv=>whnf);refine bldS (enc:=HelloEntry.enc) ([a1.Entry]:List HelloEntry) ?_;(conv=>whnf);obtain ⟨x5,hx5,h⟩:=bd_some h;refine cE [(9000,6001),(9001,38)] 2000 (slices_Insert_HelloEntry_HelloEntry_c hx5) ?_;(conv=>whnf);obtain rfl:=Option.some.inj h;exact lfP [.s [(5001,7001),(7001,5001)]]
    · (conv=>whnf);refine andI h (fun _ h=>?_) (fun _ h=>?_)
      · (conv=>whnf);obtain ⟨x6,hx6,h⟩:=bd_some h;refine cE [(9000,6001)] 2000 (slices_Delete_HelloEntry_HelloEntry_c hx6) ?_;(conv=>whnf);obtain rfl:=Option.some.inj h;exact lfP [.s [(5001,7001),(7001,5001)]]
      · (conv=>whnf);obtain rfl:=Option.some.inj h;exact lfP [.s [(5001,6001),(6001,5001)]]
noncomputable def impl_changed_fz_m (a0:(List HelloEntry)) (a1:HelloChange):Option ((List HelloEntry)) :=
 bd (impl_clone_HelloEntry_m a0) fun x1 =>
 bd (impl_HelloEntry_prefix_m a1.Entry) fun x2 =>
 bd (impl_findEntry_m x1 x2) fun x3 =>
(if ((a1.Kind == 1) && x3.2)=true then
 gd ((0:Int)≤x3.1∧x3.1<((x1.length:Nat):Int)) <|
 some (x1.set x3.1.toNat a1.Entry)
else
(if (a1.Kind == 1)=true then
 bd (slices_Insert_HelloEntry_HelloEntry_m x1 x3.1 ([a1.Entry]:List HelloEntry)) fun x5 =>
 some x5
else
(if ((a1.Kind == 2) && x3.2)=true then
 bd (slices_Delete_HelloEntry_HelloEntry_m x1 x3.1 (IntKind.i64.wrap (x3.1+1))) fun x6 =>
 some x6
else
 some x1)))
theorem impl_changed_fz_c {a0:(List HelloEntry)} {a1:HelloChange} {r:(List HelloEntry)} (h:impl_changed_fz_m a0 a1=some r):EffC Tryz.prog 67 [.d (slD HelloEntry.enc a0),.agg [.d (.int .i64 a1.Kind),.d (.int .i64 a1.Entry.Addr),.d (.int .i64 a1.Entry.Len),.d (.int .i64 a1.Entry.Cost),.d (.int .i64 a1.Entry.Label)]] [] (.d (slD HelloEntry.enc r)) []:=by
  refine effC_x tOk (fn:=Tryz.f67) (c:=codeOf Tryz.f67) rfl rfl ?_;unfold impl_changed_fz_m at h;(conv=>whnf);obtain ⟨x1,hx1,h⟩:=bd_some h;refine cC 1000 (impl_clone_HelloEntry_c hx1) ?_;clear hx1;(conv=>whnf);obtain ⟨x2,hx2,h⟩:=bd_some h;refine cC 0 (impl_HelloEntry_prefix_c hx2) ?_;clear hx2;(conv=>whnf);obtain ⟨x3,hx3,h⟩:=bd_some h;refine cC 0 (impl_findEntry_c hx3) ?_;clear hx3;(conv=>whnf);refine seq_in tOk ?_;(conv=>whnf);refine andI h (fun _ h=>?_) (fun _ h=>?_)
  · (conv=>whnf);refine gdI h (fun h=>?_);(conv=>whnf);refine ⟨rows HelloEntry.enc (x1.set x3.1.toNat a1.Entry),store_rows' lenA rfl,?_⟩;(conv=>whnf);obtain rfl:=Option.some.inj h;exact lfE [.f [6001]]
  · (conv=>whnf);refine andI h (fun _ h=>?_) (fun _ h=>?_)
    · (conv=>whnf);refine bldS (enc:=HelloEntry.enc) ([a1.Entry]:List HelloEntry) ?_;(conv=>whnf);obtain ⟨x5,hx5,h⟩:=bd_some h;refine cE [(9000,6001),(9001,38)] 2000 (slices_Insert_HelloEntry_HelloEntry_c hx5) ?_;(conv=>whnf);obtain rfl:=Option.some.inj h;exact lfE [.f [7001]]
    · (conv=>whnf);refine andI h (fun _ h=>?_) (fun _ h=>?_)
      · (conv=>whnf);obtain ⟨x6,hx6,h⟩:=bd_some h;refine cE [(9000,6001)] 2000 (slices_Delete_HelloEntry_HelloEntry_c hx6) ?_;(conv=>whnf);obtain rfl:=Option.some.inj h;exact lfE [.f [7001]]
      · (conv=>whnf);obtain rfl:=Option.some.inj h;exact lfE [.f [6001]]
noncomputable def impl_anyStale_1_m (a0:HelloRoute):Option (Bool) :=
 some a0.Stale
theorem impl_anyStale_1_c {a0:HelloRoute} {r:Bool} (h:impl_anyStale_1_m a0=some r):PureC Tryz.prog 130 [.agg [.d (.int .i64 a0.Entry.Addr),.d (.int .i64 a0.Entry.Len),.d (.int .i64 a0.Entry.Cost),.d (.int .i64 a0.Entry.Label),.d (.bool a0.Stale)]] (.d (.bool r)) []:=by
  refine pureC_x tOk (fn:=Tryz.f130) (c:=codeOf Tryz.f130) rfl rfl ?_;unfold impl_anyStale_1_m at h;(conv=>whnf);obtain rfl:=Option.some.inj h;exact lfP []
noncomputable def slices_IndexFunc_HelloRoute_HelloRoute_impl_anyStale_1_m (a0:(List HelloRoute)):Option (Int) :=
 bd (lp (σ:=Int) (β:=(Int ⊕ Unit)) (fun s1 =>
(if (decide (s1<((a0.length:Nat):Int)))=true then
 gd ((0:Int)≤s1∧s1<((a0.length:Nat):Int)) <|
 bd (impl_anyStale_1_m (⟨((a0.getD s1.toNat default).Entry),(a0.getD s1.toNat default).Stale⟩:HelloRoute)) fun x6 =>
(if x6=true then
 some (.inr (.inl s1))
else
 some (.inl (IntKind.i64.wrap (s1+1))))
else
 some (.inr (.inr ())))) 0) fun x4 =>
(match x4 with
| .inl d7 =>
 some d7
| .inr d8 =>
 some (-1))
theorem slices_IndexFunc_HelloRoute_HelloRoute_impl_anyStale_1_c {a0:(List HelloRoute)} {r:Int} (h:slices_IndexFunc_HelloRoute_HelloRoute_impl_anyStale_1_m a0=some r):PureC Tryz.prog 144 [.d (slD HelloRoute.enc a0),.fn 130 []] (.d (.int .i64 r)) []:=by
  refine pureC_x tOk (fn:=Tryz.f144) (c:=codeOf Tryz.f144) rfl rfl ?_;unfold slices_IndexFunc_HelloRoute_HelloRoute_impl_anyStale_1_m at h;(conv=>whnf);refine seq_in tOk ?_;(conv=>whnf);obtain ⟨x4,hx4,h⟩:=bd_some h;refine loop_m tOk hx4 (fun s1=>⟨0,19,[(0,.d (slD HelloRoute.enc a0)),(1,.fn 130 []),(7,.d (.int .i64 ((a0.length:Nat):Int))),(8,.d (.int .i64 s1))],[],[],[]⟩) ?_ ?_
  · exact leX []
  · clear hx4;intro s1 y2 g3 hy2;(conv=>whnf);refine seq_in tOk ?_;(conv=>whnf);refine andI g3 (fun _ g3=>?_) (fun _ g3=>?_)
    · (conv=>whnf);refine seq_in tOk ?_;(conv=>whnf);refine gdI g3 (fun g3=>?_);(conv=>whnf);obtain ⟨x6,hx6,g3⟩:=bd_some g3;refine cC 0 (impl_anyStale_1_c hx6) ?_;clear hx6;(conv=>whnf);refine andI g3 (fun _ g3=>?_) (fun _ g3=>?_)
      · (conv=>whnf);obtain rfl:=Option.some.inj g3;obtain rfl:=hy2 _ rfl;obtain rfl:=Option.some.inj h;exact lfP []
      · (conv=>whnf);obtain rfl:=Option.some.inj g3;exact ⟨_,rfl,leX []⟩
    · (conv=>whnf);obtain rfl:=Option.some.inj g3;obtain rfl:=hy2 _ rfl;obtain rfl:=Option.some.inj h;exact lfP []
noncomputable def slices_ContainsFunc_HelloRoute_HelloRoute_impl_anyStale_1_m (a0:(List HelloRoute)):Option (Bool) :=
 bd (slices_IndexFunc_HelloRoute_HelloRoute_impl_anyStale_1_m a0) fun x1 =>
 some (decide (x1 ≥ 0))
theorem slices_ContainsFunc_HelloRoute_HelloRoute_impl_anyStale_1_c {a0:(List HelloRoute)} {r:Bool} (h:slices_ContainsFunc_HelloRoute_HelloRoute_impl_anyStale_1_m a0=some r):PureC Tryz.prog 129 [.d (slD HelloRoute.enc a0),.fn 130 []] (.d (.bool r)) []:=by
  refine pureC_x tOk (fn:=Tryz.f129) (c:=codeOf Tryz.f129) rfl rfl ?_;unfold slices_ContainsFunc_HelloRoute_HelloRoute_impl_anyStale_1_m at h;(conv=>whnf);obtain ⟨x1,hx1,h⟩:=bd_some h;refine cC 0 (slices_IndexFunc_HelloRoute_HelloRoute_impl_anyStale_1_c hx1) ?_;clear hx1;(conv=>whnf);obtain rfl:=Option.some.inj h;exact lfP []
noncomputable def impl_anyStale_m (a0:(List HelloRoute)):Option (Bool) :=
 bd (slices_ContainsFunc_HelloRoute_HelloRoute_impl_anyStale_1_m a0) fun x1 =>
 some x1
theorem impl_anyStale_c {a0:(List HelloRoute)} {r:Bool} (h:impl_anyStale_m a0=some r):PureC Tryz.prog 93 [.d (slD HelloRoute.enc a0)] (.d (.bool r)) []:=by
  refine pureC_x tOk (fn:=Tryz.f93) (c:=codeOf Tryz.f93) rfl rfl ?_;unfold impl_anyStale_m at h;(conv=>whnf);obtain ⟨x1,hx1,h⟩:=bd_some h;refine cC 0 (slices_ContainsFunc_HelloRoute_HelloRoute_impl_anyStale_1_c hx1) ?_;clear hx1;(conv=>whnf);obtain rfl:=Option.some.inj h;exact lfP []
noncomputable def impl_HelloEnd_heardOk_m (a0:HelloEnd):Option (Bool) :=
 bd (lp (σ:=Int) (β:=(Unit ⊕ Unit)) (fun s1 =>
(if (decide (s1<((a0.Heard.length:Nat):Int)))=true then
 gd ((0:Int)≤s1∧s1<((a0.Heard.length:Nat):Int)) <|
 bd (impl_HelloEntry_ok_m ((a0.Heard.getD s1.toNat default).Entry)) fun x6 =>
 gd ((decide (s1 > 0))=true→(((!x6) || ((a0.Left == 0) && (!((a0.Heard.getD s1.toNat default).Stale))))=false→((0:Int)≤IntKind.i64.wrap (s1 - 1)∧IntKind.i64.wrap (s1 - 1)<((a0.Heard.length:Nat):Int)))) <|
 bd (gcall ((decide (s1 > 0))=true∧((!x6) || ((a0.Left == 0) && (!((a0.Heard.getD s1.toNat default).Stale))))=false) (impl_HelloEntry_prefix_m ((a0.Heard.getD ((IntKind.i64.wrap (s1 - 1)).toNat) default).Entry))) fun x8 =>
 bd (gcall ((decide (s1 > 0))=true∧((!x6) || ((a0.Left == 0) && (!((a0.Heard.getD s1.toNat default).Stale))))=false) (impl_HelloEntry_prefix_m ((a0.Heard.getD s1.toNat default).Entry))) fun x9 =>
 bd (gcall ((decide (s1 > 0))=true∧((!x6) || ((a0.Left == 0) && (!((a0.Heard.getD s1.toNat default).Stale))))=false) (impl_comparePrefix_m x8 x9)) fun x10 =>
(if (((!x6) || ((a0.Left == 0) && (!((a0.Heard.getD s1.toNat default).Stale)))) || ((decide (s1 > 0)) && (decide (x10 ≥ 0))))=true then
 some (.inr (.inl ()))
else
 some (.inl (IntKind.i64.wrap (s1+1))))
else
 some (.inr (.inr ())))) 0) fun x4 =>
(match x4 with
| .inl d11 =>
 some false
| .inr d12 =>
 bd (gcall ((decide (((a0.Heard.length:Nat):Int)≤16))=true) (impl_within_m a0.Keep 0 6)) fun x13 =>
 bd (gcall (((decide (((a0.Heard.length:Nat):Int)≤16)) && x13)=true) (impl_anyStale_m a0.Heard)) fun x14 =>
 some (((decide (((a0.Heard.length:Nat):Int)≤16)) && x13) && ((decide (a0.Keep > 0)) == x14)))
theorem impl_HelloEnd_heardOk_c {a0:HelloEnd} {r:Bool} (h:impl_HelloEnd_heardOk_m a0=some r):PureC Tryz.prog 68 [.agg [.d (.int .i64 a0.Name),.d (.int .i64 a0.Peer),.d (slD HelloKey.enc a0.Keys),.d (.int .i64 a0.Boot),.d (slD HelloEntry.enc a0.Want),.d (.int .i64 a0.Turn),.d (.int .i64 a0.PeerBoot),.d (.int .i64 a0.PeerTurn),.d (.bool a0.Up),.d (.int .i64 a0.Left),.d (.int .i64 a0.Num),.d (.int .i64 a0.Under.Kind),.d (.int .i64 a0.Under.Entry.Addr),.d (.int .i64 a0.Under.Entry.Len),.d (.int .i64 a0.Under.Entry.Cost),.d (.int .i64 a0.Under.Entry.Label),.d (slD HelloEntry.enc a0.Told),.d (.bool a0.All),.d (.int .i64 a0.Got),.d (.bool a0.Full),.d (slD HelloRoute.enc a0.Heard),.d (.int .i64 a0.Keep)]] (.d (.bool r)) []:=by
  refine pureC_x tOk (fn:=Tryz.f68) (c:=codeOf Tryz.f68) rfl rfl ?_;unfold impl_HelloEnd_heardOk_m at h;(conv=>whnf);refine seq_in tOk ?_;(conv=>whnf);obtain ⟨x4,hx4,h⟩:=bd_some h;refine loop_m tOk hx4 (fun s1=>⟨0,65,[(1,.ref 1 0 0),(6,.d (slD HelloRoute.enc a0.Heard)),(7,.d (.int .i64 ((a0.Heard.length:Nat):Int))),(8,.d (.int .i64 s1))],[],[(1,.box 41 [.d (.int .i64 a0.Name),.d (.int .i64 a0.Peer),.d (slD HelloKey.enc a0.Keys),.d (.int .i64 a0.Boot),.d (slD HelloEntry.enc a0.Want),.d (.int .i64 a0.Turn),.d (.int .i64 a0.PeerBoot),.d (.int .i64 a0.PeerTurn),.d (.bool a0.Up),.d (.int .i64 a0.Left),.d (.int .i64 a0.Num),.d (.int .i64 a0.Under.Kind),.d (.int .i64 a0.Under.Entry.Addr),.d (.int .i64 a0.Under.Entry.Len),.d (.int .i64 a0.Under.Entry.Cost),.d (.int .i64 a0.Under.Entry.Label),.d (slD HelloEntry.enc a0.Told),.d (.bool a0.All),.d (.int .i64 a0.Got),.d (.bool a0.Full),.d (slD HelloRoute.enc a0.Heard),.d (.int .i64 a0.Keep)])],[]⟩) ?_ ?_
  · exact leX []
  · clear hx4;intro s1 y2 g3 hy2;(conv=>whnf);refine seq_in tOk ?_;(conv=>whnf);refine andI g3 (fun _ g3=>?_) (fun _ g3=>?_)
    · (conv=>whnf);refine seq_in tOk ?_;(conv=>whnf);refine gdI g3 (fun g3=>?_);(conv=>whnf);obtain ⟨x6,hx6,g3⟩:=bd_some g3;obtain ⟨g7,g3⟩:=gd_some g3;obtain ⟨x8,hx8,g3⟩:=bd_some g3;obtain ⟨x9,hx9,g3⟩:=bd_some g3;obtain ⟨x10,hx10,g3⟩:=bd_some g3;refine draw_u tOk [.u 2 0 (.d (.bool x6)) [],.u 25 0 (.agg [.d (.int .i64 x8.Addr),.d (.int .i64 x8.Len)]) [],.u 28 0 (.agg [.d (.int .i64 x9.Addr),.d (.int .i64 x9.Len)]) [],.u 29 0 (.d (.int .i64 x10)) []] 33 [] [0,1,3,7,15,31,63,127,255,511,1023,2047,4095,8191,16383,32767,65535,131071,262143,524287,262143,1310719,4194303,8388607,16777215,33554431,262143,67371007,268435455,536870911,1073741823,2147483647,4294967295] [] ?_;(conv=>whnf);refine And.intro (callD_any (impl_HelloEntry_ok_c hx6) (by kernel_rfl)) ?_;(conv=>whnf);refine And.intro g7 ?_;clear g7;(conv=>whnf);refine And.intro (callDG_if rfl rfl rfl rfl (by intro c0 c1; exact impl_HelloEntry_prefix_c (gcall_some hx8 ⟨c0,c1⟩))) ?_;(conv=>whnf);refine And.intro (callDG_if rfl rfl rfl rfl (by intro c0 c1; exact impl_HelloEntry_prefix_c (gcall_some hx9 ⟨c0,c1⟩))) ?_;(conv=>whnf);refine And.intro (callDG_if rfl rfl rfl rfl (by intro c0 c1; exact impl_comparePrefix_c (gcall_some hx10 ⟨c0,c1⟩))) ?_;(conv=>whnf);refine And.intro (by kernel_rfl) ?_;(conv=>whnf);refine andI g3 (fun _ g3=>?_) (fun _ g3=>?_)
      · (conv=>whnf);obtain rfl:=Option.some.inj g3;obtain rfl:=hy2 _ rfl;obtain rfl:=Option.some.inj h;exact lfP []
      · (conv=>whnf);obtain rfl:=Option.some.inj g3;exact ⟨_,rfl,leX []⟩
    · (conv=>whnf);obtain rfl:=Option.some.inj g3;obtain rfl:=hy2 _ rfl;obtain ⟨x13,hx13,h⟩:=bd_some h;obtain ⟨x14,hx14,h⟩:=bd_some h;refine draw_u tOk [.u 7 0 (.d (.bool x13)) [],.u 15 0 (.d (.bool x14)) []] 19 [] [0,1,3,7,15,31,63,127,255,511,1023,2047,4095,1023,9215,25599,65535,131071,262143] [] ?_;(conv=>whnf);refine And.intro (callDG_if rfl rfl rfl rfl (by intro c0; exact impl_within_c (gcall_some hx13 c0))) ?_;(conv=>whnf);refine And.intro (callDG_if rfl rfl rfl rfl (by intro c0; exact impl_anyStale_c (gcall_some hx14 c0))) ?_;(conv=>whnf);refine And.intro (by kernel_rfl) ?_;(conv=>whnf);obtain rfl:=Option.some.inj h;exact lfP []
noncomputable def impl_HelloEndOk_m (a0:HelloEnd):Option (Bool) :=
 bd (impl_within_m a0.Name 0 65535) fun x1 =>
 bd (gcall ((!x1)=false) (impl_within_m a0.Peer 0 65535)) fun x2 =>
 bd (gcall ((((!x1) || (!x2)) || (a0.Name == a0.Peer))=false) (impl_HelloKeysOk_m a0.Keys)) fun x3 =>
(if ((((!x1) || (!x2)) || (a0.Name == a0.Peer)) || (!x3))=true then
 some false
else
 bd (impl_within_m a0.Boot 1 1000) fun x4 =>
 bd (gcall ((!x4)=false) (impl_within_m a0.Turn 0 1000000)) fun x5 =>
 bd (gcall (((!x4) || (!x5))=false) (impl_within_m a0.PeerTurn 0 1000000)) fun x6 =>
 bd (gcall ((((!x4) || (!x5)) || (!x6))=false) (impl_within_m a0.Got 0 1000000)) fun x7 =>
(if ((((!x4) || (!x5)) || (!x6)) || (!x7))=true then
 some false
else
 bd (impl_within_m a0.PeerBoot 0 999) fun x8 =>
(if ((!x8) || (!((a0.PeerBoot == 0) == (a0.PeerTurn == 0))))=true then
 some false
else
 bd (impl_within_m a0.Left 0 4) fun x9 =>
(if (((!x9) || ((a0.PeerBoot == 0) && (a0.Left != 0))) || (a0.Up && (a0.Left == 0)))=true then
 some false
else
 bd (impl_within_m a0.Num 0 a0.Turn) fun x10 =>
 bd (gcall ((!x10)=false) (impl_HelloChange_ok_m a0.Under)) fun x11 =>
(if (((!x10) || (!x11)) || ((a0.Num == 0) && (a0.Under.Kind != 0)))=true then
 some false
else
 bd (impl_HelloTableOk_m a0.Want) fun x12 =>
 bd (gcall ((!x12)=false) (impl_HelloTableOk_m a0.Told)) fun x13 =>
 bd (gcall (((!x12) || (!x13))=false) (impl_changed_fz_m a0.Told a0.Under)) fun x14 =>
 bd (gcall (((!x12) || (!x13))=false) (impl_HelloTableOk_m x14)) fun x15 =>
(if (((!x12) || (!x13)) || (!x15))=true then
 some false
else
 bd (impl_HelloEnd_heardOk_m a0) fun x16 =>
 some x16))))))
theorem impl_HelloEndOk_c {a0:HelloEnd} {r:Bool} (h:impl_HelloEndOk_m a0=some r):PureC Tryz.prog 21 [.agg [.d (.int .i64 a0.Name),.d (.int .i64 a0.Peer),.d (slD HelloKey.enc a0.Keys),.d (.int .i64 a0.Boot),.d (slD HelloEntry.enc a0.Want),.d (.int .i64 a0.Turn),.d (.int .i64 a0.PeerBoot),.d (.int .i64 a0.PeerTurn),.d (.bool a0.Up),.d (.int .i64 a0.Left),.d (.int .i64 a0.Num),.d (.int .i64 a0.Under.Kind),.d (.int .i64 a0.Under.Entry.Addr),.d (.int .i64 a0.Under.Entry.Len),.d (.int .i64 a0.Under.Entry.Cost),.d (.int .i64 a0.Under.Entry.Label),.d (slD HelloEntry.enc a0.Told),.d (.bool a0.All),.d (.int .i64 a0.Got),.d (.bool a0.Full),.d (slD HelloRoute.enc a0.Heard),.d (.int .i64 a0.Keep)]] (.d (.bool r)) []:=by
  refine pureC_x tOk (fn:=Tryz.f21) (c:=codeOf Tryz.f21) rfl rfl ?_;unfold impl_HelloEndOk_m at h;(conv=>whnf);refine seq_in tOk ?_;(conv=>whnf);obtain ⟨x1,hx1,h⟩:=bd_some h;refine cC 0 (impl_within_c hx1) ?_;clear hx1;(conv=>whnf);obtain ⟨x2,hx2,h⟩:=bd_some h;refine cG (fun c0=>impl_within_c (gcall_some hx2 c0)) ?_;(conv=>whnf);obtain ⟨x3,hx3,h⟩:=bd_some h;refine cG (fun c0=>impl_HelloKeysOk_c (gcall_some hx3 c0)) ?_;(conv=>whnf);refine andI h (fun _ h=>?_) (fun _ h=>?_)
  · (conv=>whnf);obtain rfl:=Option.some.inj h;exact lfP []
  · (conv=>whnf);obtain ⟨x4,hx4,h⟩:=bd_some h;refine cC 0 (impl_within_c hx4) ?_;clear hx4;(conv=>whnf);obtain ⟨x5,hx5,h⟩:=bd_some h;refine cG (fun c0=>impl_within_c (gcall_some hx5 c0)) ?_;(conv=>whnf);obtain ⟨x6,hx6,h⟩:=bd_some h;refine cG (fun c0=>impl_within_c (gcall_some hx6 c0)) ?_;(conv=>whnf);obtain ⟨x7,hx7,h⟩:=bd_some h;refine cG (fun c0=>impl_within_c (gcall_some hx7 c0)) ?_;(conv=>whnf);refine andI h (fun _ h=>?_) (fun _ h=>?_)
    · (conv=>whnf);obtain rfl:=Option.some.inj h;exact lfP []
    · (conv=>whnf);obtain ⟨x8,hx8,h⟩:=bd_some h;refine cC 0 (impl_within_c hx8) ?_;clear hx8;(conv=>whnf);refine andI h (fun _ h=>?_) (fun _ h=>?_)
      · (conv=>whnf);obtain rfl:=Option.some.inj h;exact lfP []
      · (conv=>whnf);obtain ⟨x9,hx9,h⟩:=bd_some h;refine cC 0 (impl_within_c hx9) ?_;clear hx9;(conv=>whnf);refine andI h (fun _ h=>?_) (fun _ h=>?_)
        · (conv=>whnf);obtain rfl:=Option.some.inj h;exact lfP []
        · (conv=>whnf);obtain ⟨x10,hx10,h⟩:=bd_some h;refine cC 0 (impl_within_c hx10) ?_;clear hx10;(conv=>whnf);obtain ⟨x11,hx11,h⟩:=bd_some h;refine cG (fun c0=>impl_HelloChange_ok_c (gcall_some hx11 c0)) ?_;(conv=>whnf);refine andI h (fun _ h=>?_) (fun _ h=>?_)
          · (conv=>whnf);obtain rfl:=Option.some.inj h;exact lfP []
          · (conv=>whnf);obtain ⟨x12,hx12,h⟩:=bd_some h;refine cC 0 (impl_HelloTableOk_c hx12) ?_;clear hx12;(conv=>whnf);obtain ⟨x13,hx13,h⟩:=bd_some h;refine cG (fun c0=>impl_HelloTableOk_c (gcall_some hx13 c0)) ?_;(conv=>whnf);obtain ⟨x14,hx14,h⟩:=bd_some h;refine callG_e [] 0 rfl rfl rfl (by intro c0; exact impl_changed_fz_c (gcall_some hx14 c0)) argA inA rfl rfl (condN_of inA) ?_;(conv=>whnf);obtain ⟨x15,hx15,h⟩:=bd_some h;refine cG (fun c0=>impl_HelloTableOk_c (gcall_some hx15 c0)) ?_;(conv=>whnf);refine andI h (fun _ h=>?_) (fun _ h=>?_)
            · (conv=>whnf);obtain rfl:=Option.some.inj h;exact lfP []
            · (conv=>whnf);obtain ⟨x16,hx16,h⟩:=bd_some h;refine cC 0 (impl_HelloEnd_heardOk_c hx16) ?_;clear hx16;(conv=>whnf);obtain rfl:=Option.some.inj h;exact lfP []
noncomputable def impl_entriesOf_m (a0:(List HelloRoute)):Option ((List HelloEntry)) :=
 bd (lp (σ:=List HelloEntry × Int) (β:=(Nat × (List HelloEntry))) (fun s1 =>
(if (decide (s1.2<((a0.length:Nat):Int)))=true then
 gd ((0:Int)≤s1.2∧s1.2<((a0.length:Nat):Int)) <|
 gd (((s1.1.length)+(([((a0.getD s1.2.toNat default).Entry)]:List HelloEntry).length))*(32+1)≤70368744177664) <|
 some (.inl ((s1.1 ++ ([((a0.getD s1.2.toNat default).Entry)]:List HelloEntry)),IntKind.i64.wrap (s1.2+1)))
else
 some (.inr (s1.1.length,s1.1)))) (([]:List HelloEntry),0)) fun x4 =>
 some x4.2
theorem impl_entriesOf_c {a0:(List HelloRoute)} {r:(List HelloEntry)} (h:impl_entriesOf_m a0=some r):PureC Tryz.prog 51 [.d (slD HelloRoute.enc a0)] (.osl 5001 0 r.length) [⟨5001,36,4,r.length,rows HelloEntry.enc r⟩]:=by
  refine pureC_x tOk (fn:=Tryz.f51) (c:=codeOf Tryz.f51) rfl rfl ?_;unfold impl_entriesOf_m at h;(conv=>whnf);refine seq_in tOk ?_;(conv=>whnf);obtain ⟨x4,hx4,h⟩:=bd_some h;refine loop_m tOk hx4 (fun s1=>⟨0,20,[(3,.osl 7001 0 s1.1.length),(7,.d (slD HelloRoute.enc a0)),(8,.d (.int .i64 ((a0.length:Nat):Int))),(9,.d (.int .i64 s1.2))],[],[(7001,.arr 36 4 s1.1.length (rows HelloEntry.enc s1.1))],[]⟩) ?_ ?_
  · exact leX [.p 7001 36 4 (rows HelloEntry.enc ([]:List HelloEntry))]
  · clear hx4;intro s1 y2 g3 hy2;(conv=>whnf);refine seq_in tOk ?_;(conv=>whnf);refine andI g3 (fun _ g3=>?_) (fun _ g3=>?_)
    · (conv=>whnf);refine seq_in tOk ?_;(conv=>whnf);refine gdI g3 (fun g3=>?_);(conv=>whnf);refine bldS (enc:=HelloEntry.enc) ([((a0.getD s1.2.toNat default).Entry)]:List HelloEntry) ?_;(conv=>whnf);refine gdI g3 (fun g3=>?_);refine appS (enc:=HelloEntry.enc) (xs:=s1.1) (ys:=([((a0.getD s1.2.toNat default).Entry)]:List HelloEntry)) ?_;(conv=>whnf);obtain rfl:=Option.some.inj g3;exact ⟨_,rfl,leX []⟩
    · (conv=>whnf);obtain rfl:=Option.some.inj g3;obtain rfl:=hy2 _ rfl;obtain rfl:=Option.some.inj h;exact lfP [.s [(5001,7001),(7001,5001)]]
noncomputable def impl_HelloUse_m (a0:HelloEnd):Option ((List HelloEntry)) :=
 bd (impl_HelloEndOk_m a0) fun x1 =>
(if (!x1)=true then
 some []
else
 bd (impl_entriesOf_m a0.Heard) fun x2 =>
 some x2)
theorem impl_HelloUse_c {a0:HelloEnd} {r:(List HelloEntry)} (h:impl_HelloUse_m a0=some r):PureC Tryz.prog 16 [.agg [.d (.int .i64 a0.Name),.d (.int .i64 a0.Peer),.d (slD HelloKey.enc a0.Keys),.d (.int .i64 a0.Boot),.d (slD HelloEntry.enc a0.Want),.d (.int .i64 a0.Turn),.d (.int .i64 a0.PeerBoot),.d (.int .i64 a0.PeerTurn),.d (.bool a0.Up),.d (.int .i64 a0.Left),.d (.int .i64 a0.Num),.d (.int .i64 a0.Under.Kind),.d (.int .i64 a0.Under.Entry.Addr),.d (.int .i64 a0.Under.Entry.Len),.d (.int .i64 a0.Under.Entry.Cost),.d (.int .i64 a0.Under.Entry.Label),.d (slD HelloEntry.enc a0.Told),.d (.bool a0.All),.d (.int .i64 a0.Got),.d (.bool a0.Full),.d (slD HelloRoute.enc a0.Heard),.d (.int .i64 a0.Keep)]] (.osl 5001 0 r.length) [⟨5001,36,4,r.length,rows HelloEntry.enc r⟩]:=by
  refine pureC_x tOk (fn:=Tryz.f16) (c:=codeOf Tryz.f16) rfl rfl ?_;unfold impl_HelloUse_m at h;(conv=>whnf);refine seq_in tOk ?_;(conv=>whnf);obtain ⟨x1,hx1,h⟩:=bd_some h;refine cC 0 (impl_HelloEndOk_c hx1) ?_;clear hx1;(conv=>whnf);refine andI h (fun _ h=>?_) (fun _ h=>?_)
  · (conv=>whnf);obtain rfl:=Option.some.inj h;exact lfP [.k [1],.p 5001 36 4 (rows HelloEntry.enc ([]:List HelloEntry))]
  · (conv=>whnf);obtain ⟨x2,hx2,h⟩:=bd_some h;refine cC 1000 (impl_entriesOf_c hx2) ?_;clear hx2;(conv=>whnf);obtain rfl:=Option.some.inj h;exact lfP [.s [(5001,6001),(6001,5001)]]
noncomputable def spec_HelloUse_m (a0:HelloEnd):Option ((List HelloEntry)) :=
 bd (spec_HelloEndOk_m a0) fun x1 =>
(if (!x1)=true then
 some []
else
 bd (lp (σ:=List HelloEntry × Int) (β:=(Nat × (List HelloEntry))) (fun s2 =>
(if (decide (s2.2<((a0.Heard.length:Nat):Int)))=true then
 gd ((0:Int)≤s2.2∧s2.2<((a0.Heard.length:Nat):Int)) <|
 gd (((s2.1.length)+(([((a0.Heard.getD s2.2.toNat default).Entry)]:List HelloEntry).length))*(32+1)≤70368744177664) <|
 some (.inl ((s2.1 ++ ([((a0.Heard.getD s2.2.toNat default).Entry)]:List HelloEntry)),IntKind.i64.wrap (s2.2+1)))
else
 some (.inr (s2.1.length,s2.1)))) (([]:List HelloEntry),0)) fun x5 =>
 some x5.2)
theorem spec_HelloUse_c {a0:HelloEnd} {r:(List HelloEntry)} (h:spec_HelloUse_m a0=some r):PureC Tryz.prog 26 [.agg [.d (.int .i64 a0.Name),.d (.int .i64 a0.Peer),.d (slD HelloKey.enc a0.Keys),.d (.int .i64 a0.Boot),.d (slD HelloEntry.enc a0.Want),.d (.int .i64 a0.Turn),.d (.int .i64 a0.PeerBoot),.d (.int .i64 a0.PeerTurn),.d (.bool a0.Up),.d (.int .i64 a0.Left),.d (.int .i64 a0.Num),.d (.int .i64 a0.Under.Kind),.d (.int .i64 a0.Under.Entry.Addr),.d (.int .i64 a0.Under.Entry.Len),.d (.int .i64 a0.Under.Entry.Cost),.d (.int .i64 a0.Under.Entry.Label),.d (slD HelloEntry.enc a0.Told),.d (.bool a0.All),.d (.int .i64 a0.Got),.d (.bool a0.Full),.d (slD HelloRoute.enc a0.Heard),.d (.int .i64 a0.Keep)]] (.osl 5001 0 r.length) [⟨5001,36,4,r.length,rows HelloEntry.enc r⟩]:=by
  refine pureC_x tOk (fn:=Tryz.f26) (c:=codeOf Tryz.f26) rfl rfl ?_;unfold spec_HelloUse_m at h;(conv=>whnf);refine seq_in tOk ?_;(conv=>whnf);obtain ⟨x1,hx1,h⟩:=bd_some h;refine cC 0 (spec_HelloEndOk_c hx1) ?_;clear hx1;(conv=>whnf);refine andI h (fun _ h=>?_) (fun _ h=>?_)
  · (conv=>whnf);obtain rfl:=Option.some.inj h;exact lfP [.k [1],.p 5001 36 4 (rows HelloEntry.enc ([]:List HelloEntry))]
  · (conv=>whnf);refine seq_in tOk ?_;(conv=>whnf);obtain ⟨x5,hx5,h⟩:=bd_some h;refine loop_m tOk hx5 (fun s2=>⟨0,27,[(1,.ref 1 0 0),(3,.osl 7001 0 s2.1.length),(4,.d (.int .i64 s2.2))],[],[(7001,.arr 36 4 s2.1.length (rows HelloEntry.enc s2.1)),(1,.box 41 [.d (.int .i64 a0.Name),.d (.int .i64 a0.Peer),.d (slD HelloKey.enc a0.Keys),.d (.int .i64 a0.Boot),.d (slD HelloEntry.enc a0.Want),.d (.int .i64 a0.Turn),.d (.int .i64 a0.PeerBoot),.d (.int .i64 a0.PeerTurn),.d (.bool a0.Up),.d (.int .i64 a0.Left),.d (.int .i64 a0.Num),.d (.int .i64 a0.Under.Kind),.d (.int .i64 a0.Under.Entry.Addr),.d (.int .i64 a0.Under.Entry.Len),.d (.int .i64 a0.Under.Entry.Cost),.d (.int .i64 a0.Under.Entry.Label),.d (slD HelloEntry.enc a0.Told),.d (.bool a0.All),.d (.int .i64 a0.Got),.d (.bool a0.Full),.d (slD HelloRoute.enc a0.Heard),.d (.int .i64 a0.Keep)])],[]⟩) ?_ ?_
    · exact leX [.p 7001 36 4 (rows HelloEntry.enc ([]:List HelloEntry))]
    · clear hx5;intro s2 y3 g4 hy3;(conv=>whnf);refine seq_in tOk ?_;(conv=>whnf);refine andI g4 (fun _ g4=>?_) (fun _ g4=>?_)
      · (conv=>whnf);refine seq_in tOk ?_;(conv=>whnf);refine gdI g4 (fun g4=>?_);(conv=>whnf);refine bldS (enc:=HelloEntry.enc) ([((a0.Heard.getD s2.2.toNat default).Entry)]:List HelloEntry) ?_;(conv=>whnf);refine gdI g4 (fun g4=>?_);refine appS (enc:=HelloEntry.enc) (xs:=s2.1) (ys:=([((a0.Heard.getD s2.2.toNat default).Entry)]:List HelloEntry)) ?_;(conv=>whnf);obtain rfl:=Option.some.inj g4;exact ⟨_,rfl,leX []⟩
      · (conv=>whnf);obtain rfl:=Option.some.inj g4;obtain rfl:=hy3 _ rfl;obtain rfl:=Option.some.inj h;exact lfP [.s [(5001,7001),(7001,5001)]]
noncomputable def laws_whTable_m (a0:(List HelloEntry)) (a1:(List HelloEntry)):Option (Bool) :=
(if (((a0.length:Nat):Int) != ((a1.length:Nat):Int))=true then
 some false
else
 bd (lp (σ:=Int) (β:=(Unit ⊕ Unit)) (fun s1 =>
(if (decide (s1<((a0.length:Nat):Int)))=true then
 gd ((0:Int)≤s1∧s1<((a0.length:Nat):Int)) <|
 gd ((0:Int)≤s1∧s1<((a1.length:Nat):Int)) <|
(if (!((((a0.getD s1.toNat default).Addr) == ((a1.getD s1.toNat default).Addr)) && ((((a0.getD s1.toNat default).Len) == ((a1.getD s1.toNat default).Len)) && ((((a0.getD s1.toNat default).Cost) == ((a1.getD s1.toNat default).Cost)) && ((((a0.getD s1.toNat default).Label) == ((a1.getD s1.toNat default).Label)) && true)))))=true then
 some (.inr (.inl ()))
else
 some (.inl (IntKind.i64.wrap (s1+1))))
else
 some (.inr (.inr ())))) 0) fun x4 =>
(match x4 with
| .inl d7 =>
 some false
| .inr d8 =>
 some true))
theorem laws_whTable_c {a0:(List HelloEntry)} {a1:(List HelloEntry)} {r:Bool} (h:laws_whTable_m a0 a1=some r):PureC Tryz.prog 22 [.d (slD HelloEntry.enc a0),.d (slD HelloEntry.enc a1)] (.d (.bool r)) []:=by
  refine pureC_x tOk (fn:=Tryz.f22) (c:=codeOf Tryz.f22) rfl rfl ?_;unfold laws_whTable_m at h;(conv=>whnf);refine seq_in tOk ?_;(conv=>whnf);refine andI h (fun _ h=>?_) (fun _ h=>?_)
  · (conv=>whnf);obtain rfl:=Option.some.inj h;exact lfP []
  · (conv=>whnf);refine seq_in tOk ?_;(conv=>whnf);obtain ⟨x4,hx4,h⟩:=bd_some h;refine loop_m tOk hx4 (fun s1=>⟨0,26,[(0,.d (slD HelloEntry.enc a0)),(1,.d (slD HelloEntry.enc a1)),(5,.d (.int .i64 s1))],[],[],[]⟩) ?_ ?_
    · exact leX []
    · clear hx4;intro s1 y2 g3 hy2;(conv=>whnf);refine seq_in tOk ?_;(conv=>whnf);refine andI g3 (fun _ g3=>?_) (fun _ g3=>?_)
      · (conv=>whnf);refine seq_in tOk ?_;(conv=>whnf);obtain ⟨g5,g3⟩:=gd_some g3;obtain ⟨g6,g3⟩:=gd_some g3;refine draw_u tOk [] 9 [] [0,0,3,7,0,0,48,112,255] [] ?_;(conv=>whnf);refine And.intro g5 ?_;clear g5;(conv=>whnf);refine And.intro g6 ?_;clear g6;(conv=>whnf);refine And.intro (by kernel_rfl) ?_;(conv=>whnf);refine andI g3 (fun _ g3=>?_) (fun _ g3=>?_)
        · (conv=>whnf);obtain rfl:=Option.some.inj g3;obtain rfl:=hy2 _ rfl;obtain rfl:=Option.some.inj h;exact lfP []
        · (conv=>whnf);obtain rfl:=Option.some.inj g3;exact ⟨_,rfl,leX []⟩
      · (conv=>whnf);obtain rfl:=Option.some.inj g3;obtain rfl:=hy2 _ rfl;obtain rfl:=Option.some.inj h;exact lfP []
noncomputable def impl_clone_HelloKey_m (a0:(List HelloKey)):Option ((List HelloKey)) :=
 gd ((0:Int)≤0∧0≤((a0.length:Nat):Int)∧((a0.length:Nat):Int)*16≤140737488355328∧((a0.length:Nat):Int)≤140737488355328) <|
 gd ((((List.replicate (0:Int).toNat (default:HelloKey)).length)+(a0.length))*(16+1)≤70368744177664) <|
 some ((List.replicate (0:Int).toNat (default:HelloKey)) ++ a0)
theorem impl_clone_HelloKey_c {a0:(List HelloKey)} {r:(List HelloKey)} (h:impl_clone_HelloKey_m a0=some r):PureC Tryz.prog 86 [.d (slD HelloKey.enc a0)] (.osl 5001 0 r.length) [⟨5001,90,2,r.length,rows HelloKey.enc r⟩]:=by
  refine pureC_x tOk (fn:=Tryz.f86) (c:=codeOf Tryz.f86) rfl rfl ?_;unfold impl_clone_HelloKey_m at h;(conv=>whnf);obtain ⟨g2,h⟩:=gd_some h;refine And.intro g2 ?_;clear g2;refine ⟨(List.replicate (0:Int).toNat (default:HelloKey)).length,rows HelloKey.enc (List.replicate (0:Int).toNat (default:HelloKey)),by simp,make_rows rfl,?_⟩;(conv=>whnf);refine gdI h (fun h=>?_);refine appS (enc:=HelloKey.enc) (xs:=(List.replicate (0:Int).toNat (default:HelloKey))) (ys:=a0) ?_;(conv=>whnf);obtain rfl:=Option.some.inj h;exact lfP [.s [(5,5001),(5001,5)]]
noncomputable def impl_clone_HelloRoute_m (a0:(List HelloRoute)):Option ((List HelloRoute)) :=
 gd ((0:Int)≤0∧0≤((a0.length:Nat):Int)∧((a0.length:Nat):Int)*40≤140737488355328∧((a0.length:Nat):Int)≤140737488355328) <|
 gd ((((List.replicate (0:Int).toNat (default:HelloRoute)).length)+(a0.length))*(40+1)≤70368744177664) <|
 some ((List.replicate (0:Int).toNat (default:HelloRoute)) ++ a0)
theorem impl_clone_HelloRoute_c {a0:(List HelloRoute)} {r:(List HelloRoute)} (h:impl_clone_HelloRoute_m a0=some r):PureC Tryz.prog 88 [.d (slD HelloRoute.enc a0)] (.osl 5001 0 r.length) [⟨5001,94,5,r.length,rows HelloRoute.enc r⟩]:=by
  refine pureC_x tOk (fn:=Tryz.f88) (c:=codeOf Tryz.f88) rfl rfl ?_;unfold impl_clone_HelloRoute_m at h;(conv=>whnf);obtain ⟨g2,h⟩:=gd_some h;refine And.intro g2 ?_;clear g2;refine ⟨(List.replicate (0:Int).toNat (default:HelloRoute)).length,rows HelloRoute.enc (List.replicate (0:Int).toNat (default:HelloRoute)),by simp,make_rows rfl,?_⟩;(conv=>whnf);refine gdI h (fun h=>?_);refine appS (enc:=HelloRoute.enc) (xs:=(List.replicate (0:Int).toNat (default:HelloRoute))) (ys:=a0) ?_;(conv=>whnf);obtain rfl:=Option.some.inj h;exact lfP [.s [(5,5001),(5001,5)]]
noncomputable def impl_copyEnd_m (a0:HelloEnd):Option (HelloEnd) :=
 bd (impl_clone_HelloKey_m a0.Keys) fun x1 =>
 bd (impl_clone_HelloEntry_m a0.Want) fun x2 =>
 bd (impl_clone_HelloEntry_m a0.Told) fun x3 =>
 bd (impl_clone_HelloRoute_m a0.Heard) fun x4 =>
 some ({ a0 with Keys:=x1,Want:=x2,Told:=x3,Heard:=x4 })
theorem impl_copyEnd_c {a0:HelloEnd} {r:HelloEnd} (h:impl_copyEnd_m a0=some r):PureC Tryz.prog 37 [.agg [.d (.int .i64 a0.Name),.d (.int .i64 a0.Peer),.d (slD HelloKey.enc a0.Keys),.d (.int .i64 a0.Boot),.d (slD HelloEntry.enc a0.Want),.d (.int .i64 a0.Turn),.d (.int .i64 a0.PeerBoot),.d (.int .i64 a0.PeerTurn),.d (.bool a0.Up),.d (.int .i64 a0.Left),.d (.int .i64 a0.Num),.d (.int .i64 a0.Under.Kind),.d (.int .i64 a0.Under.Entry.Addr),.d (.int .i64 a0.Under.Entry.Len),.d (.int .i64 a0.Under.Entry.Cost),.d (.int .i64 a0.Under.Entry.Label),.d (slD HelloEntry.enc a0.Told),.d (.bool a0.All),.d (.int .i64 a0.Got),.d (.bool a0.Full),.d (slD HelloRoute.enc a0.Heard),.d (.int .i64 a0.Keep)]] (.agg [.d (.int .i64 r.Name),.d (.int .i64 r.Peer),.osl 5001 0 r.Keys.length,.d (.int .i64 r.Boot),.osl 5002 0 r.Want.length,.d (.int .i64 r.Turn),.d (.int .i64 r.PeerBoot),.d (.int .i64 r.PeerTurn),.d (.bool r.Up),.d (.int .i64 r.Left),.d (.int .i64 r.Num),.d (.int .i64 r.Under.Kind),.d (.int .i64 r.Under.Entry.Addr),.d (.int .i64 r.Under.Entry.Len),.d (.int .i64 r.Under.Entry.Cost),.d (.int .i64 r.Under.Entry.Label),.osl 5003 0 r.Told.length,.d (.bool r.All),.d (.int .i64 r.Got),.d (.bool r.Full),.osl 5004 0 r.Heard.length,.d (.int .i64 r.Keep)]) [⟨5001,90,2,r.Keys.length,rows HelloKey.enc r.Keys⟩,⟨5002,36,4,r.Want.length,rows HelloEntry.enc r.Want⟩,⟨5003,36,4,r.Told.length,rows HelloEntry.enc r.Told⟩,⟨5004,94,5,r.Heard.length,rows HelloRoute.enc r.Heard⟩]:=by
  refine pureC_x tOk (fn:=Tryz.f37) (c:=codeOf Tryz.f37) rfl rfl ?_;unfold impl_copyEnd_m at h;(conv=>whnf);obtain ⟨x1,hx1,h⟩:=bd_some h;obtain ⟨x2,hx2,h⟩:=bd_some h;obtain ⟨x3,hx3,h⟩:=bd_some h;obtain ⟨x4,hx4,h⟩:=bd_some h;refine draw_u tOk [.u 2 1000 (.osl 5001 0 x1.length) [⟨5001,90,2,x1.length,rows HelloKey.enc x1⟩],.u 5 2000 (.osl 5001 0 x2.length) [⟨5001,36,4,x2.length,rows HelloEntry.enc x2⟩],.u 8 3000 (.osl 5001 0 x3.length) [⟨5001,36,4,x3.length,rows HelloEntry.enc x3⟩],.u 11 4000 (.osl 5001 0 x4.length) [⟨5001,94,5,x4.length,rows HelloRoute.enc x4⟩]] 13 [] [0,1,3,0,8,31,0,64,255,0,512,2047,1759] [8191,16383,32767,65535,131071,262143,524287] ?_;(conv=>whnf);refine And.intro (callD_any (impl_clone_HelloKey_c hx1) (by kernel_rfl)) ?_;(conv=>whnf);refine And.intro (callD_any (impl_clone_HelloEntry_c hx2) (by kernel_rfl)) ?_;(conv=>whnf);refine And.intro (callD_any (impl_clone_HelloEntry_c hx3) (by kernel_rfl)) ?_;(conv=>whnf);refine And.intro (callD_any (impl_clone_HelloRoute_c hx4) (by kernel_rfl)) ?_;(conv=>whnf);refine And.intro (by kernel_rfl) ?_;(conv=>whnf);obtain rfl:=Option.some.inj h;exact lfP [.s [(5001,6001),(5002,7001),(5003,8001),(5004,9001),(6001,5001),(7001,5002),(8001,5003),(9001,5004)]]
noncomputable def impl_HelloEnd_wornOut_m (a0:HelloEnd):Option (Bool) :=
 some (a0.Boot == 1000)
theorem impl_HelloEnd_wornOut_c {a0:HelloEnd} {r:Bool} (h:impl_HelloEnd_wornOut_m a0=some r):PureC Tryz.prog 125 [.rp [.int .i64 a0.Name,.int .i64 a0.Peer,slD HelloKey.enc a0.Keys,.int .i64 a0.Boot,slD HelloEntry.enc a0.Want,.int .i64 a0.Turn,.int .i64 a0.PeerBoot,.int .i64 a0.PeerTurn,.bool a0.Up,.int .i64 a0.Left,.int .i64 a0.Num,.int .i64 a0.Under.Kind,.int .i64 a0.Under.Entry.Addr,.int .i64 a0.Under.Entry.Len,.int .i64 a0.Under.Entry.Cost,.int .i64 a0.Under.Entry.Label,slD HelloEntry.enc a0.Told,.bool a0.All,.int .i64 a0.Got,.bool a0.Full,slD HelloRoute.enc a0.Heard,.int .i64 a0.Keep]] (.d (.bool r)) []:=by
  refine pureC_x tOk (fn:=Tryz.f125) (c:=codeOf Tryz.f125) rfl rfl ?_;unfold impl_HelloEnd_wornOut_m at h;(conv=>whnf);obtain rfl:=Option.some.inj h;exact lfP []
noncomputable def impl_HelloWordOk_m (a0:HelloWord):Option (Bool) :=
 bd (impl_within_m a0.From 0 65535) fun x1 =>
 bd (gcall ((!x1)=false) (impl_within_m a0.To 0 65535)) fun x2 =>
 bd (gcall (((!x1) || (!x2))=false) (impl_within_m a0.Key 1 9)) fun x3 =>
(if (((!x1) || (!x2)) || (!x3))=true then
 some false
else
 bd (impl_within_m a0.Boot 1 999) fun x4 =>
 bd (gcall ((!x4)=false) (impl_within_m a0.Yours 0 999)) fun x5 =>
 bd (gcall (((!x4) || (!x5))=false) (impl_within_m a0.Turn 1 1000000)) fun x6 =>
(if (((!x4) || (!x5)) || (!x6))=true then
 some false
else
 bd (impl_within_m a0.Num 0 a0.Turn) fun x7 =>
 bd (gcall ((!x7)=false) (impl_within_m a0.Heard 0 1000000)) fun x8 =>
 bd (gcall (((!x7) || (!x8))=false) (impl_within_m a0.Sum 0 2147483646)) fun x9 =>
(if (((!x7) || (!x8)) || (!x9))=true then
 some false
else
 bd (impl_HelloChange_ok_m a0.Change) fun x10 =>
 some (x10 && ((a0.Change.Kind == 0) || (decide (a0.Num > 0)))))))
theorem impl_HelloWordOk_c {a0:HelloWord} {r:Bool} (h:impl_HelloWordOk_m a0=some r):PureC Tryz.prog 70 [.agg [.d (.int .i64 a0.From),.d (.int .i64 a0.To),.d (.int .i64 a0.Key),.d (.int .i64 a0.Boot),.d (.int .i64 a0.Yours),.d (.int .i64 a0.Turn),.d (.int .i64 a0.Num),.d (.int .i64 a0.Heard),.d (.int .i64 a0.Change.Kind),.d (.int .i64 a0.Change.Entry.Addr),.d (.int .i64 a0.Change.Entry.Len),.d (.int .i64 a0.Change.Entry.Cost),.d (.int .i64 a0.Change.Entry.Label),.d (.int .i64 a0.Sum)]] (.d (.bool r)) []:=by
  refine pureC_x tOk (fn:=Tryz.f70) (c:=codeOf Tryz.f70) rfl rfl ?_;unfold impl_HelloWordOk_m at h;(conv=>whnf);refine seq_in tOk ?_;(conv=>whnf);obtain ⟨x1,hx1,h⟩:=bd_some h;refine cC 0 (impl_within_c hx1) ?_;clear hx1;(conv=>whnf);obtain ⟨x2,hx2,h⟩:=bd_some h;refine cG (fun c0=>impl_within_c (gcall_some hx2 c0)) ?_;(conv=>whnf);obtain ⟨x3,hx3,h⟩:=bd_some h;refine cG (fun c0=>impl_within_c (gcall_some hx3 c0)) ?_;(conv=>whnf);refine andI h (fun _ h=>?_) (fun _ h=>?_)
  · (conv=>whnf);obtain rfl:=Option.some.inj h;exact lfP []
  · (conv=>whnf);obtain ⟨x4,hx4,h⟩:=bd_some h;refine cC 0 (impl_within_c hx4) ?_;clear hx4;(conv=>whnf);obtain ⟨x5,hx5,h⟩:=bd_some h;refine cG (fun c0=>impl_within_c (gcall_some hx5 c0)) ?_;(conv=>whnf);obtain ⟨x6,hx6,h⟩:=bd_some h;refine cG (fun c0=>impl_within_c (gcall_some hx6 c0)) ?_;(conv=>whnf);refine andI h (fun _ h=>?_) (fun _ h=>?_)
    · (conv=>whnf);obtain rfl:=Option.some.inj h;exact lfP []
    · (conv=>whnf);obtain ⟨x7,hx7,h⟩:=bd_some h;refine cC 0 (impl_within_c hx7) ?_;clear hx7;(conv=>whnf);obtain ⟨x8,hx8,h⟩:=bd_some h;refine cG (fun c0=>impl_within_c (gcall_some hx8 c0)) ?_;(conv=>whnf);obtain ⟨x9,hx9,h⟩:=bd_some h;refine cG (fun c0=>impl_within_c (gcall_some hx9 c0)) ?_;(conv=>whnf);refine andI h (fun _ h=>?_) (fun _ h=>?_)
      · (conv=>whnf);obtain rfl:=Option.some.inj h;exact lfP []
      · (conv=>whnf);obtain ⟨x10,hx10,h⟩:=bd_some h;refine cC 0 (impl_HelloChange_ok_c hx10) ?_;clear hx10;(conv=>whnf);obtain rfl:=Option.some.inj h;exact lfP []
noncomputable def impl_takeIn_m (a0:Int) (a1:(List Int)):Option (Int) :=
 bd (lp (σ:=Int × Int) (β:=(Int)) (fun s1 =>
(if (decide (s1.2<((a1.length:Nat):Int)))=true then
 gd ((0:Int)≤s1.2∧s1.2<((a1.length:Nat):Int)) <|
 gd ((2147483647:Int) ≠ 0) <|
 gd ((2147483647:Int) ≠ 0) <|
 gd ((2147483647:Int) ≠ 0) <|
 some (.inl (((IntKind.i64.wrap ((IntKind.i64.wrap ((IntKind.i64.wrap (48271*s1.1))+((IntKind.i64.wrap ((((a1.getD s1.2.toNat default):Int).tmod 2147483647)+2147483647):Int).tmod 2147483647)))+1):Int).tmod 2147483647),IntKind.i64.wrap (s1.2+1)))
else
 some (.inr s1.1))) (a0,0)) fun x4 =>
 some x4
theorem impl_takeIn_c {a0:Int} {a1:(List Int)} {r:Int} (h:impl_takeIn_m a0 a1=some r):PureC Tryz.prog 118 [.d (.int .i64 a0),.d (slD encInt a1)] (.d (.int .i64 r)) []:=by
  refine pureC_x tOk (fn:=Tryz.f118) (c:=codeOf Tryz.f118) rfl rfl ?_;unfold impl_takeIn_m at h;(conv=>whnf);refine seq_in tOk ?_;(conv=>whnf);obtain ⟨x4,hx4,h⟩:=bd_some h;refine loop_m tOk hx4 (fun s1=>⟨0,24,[(0,.d (.int .i64 s1.1)),(7,.d (slD encInt a1)),(8,.d (.int .i64 ((a1.length:Nat):Int))),(9,.d (.int .i64 s1.2))],[],[],[]⟩) ?_ ?_
  · exact leX []
  · clear hx4;intro s1 y2 g3 hy2;(conv=>whnf);refine seq_in tOk ?_;(conv=>whnf);refine andI g3 (fun _ g3=>?_) (fun _ g3=>?_)
    · (conv=>whnf);refine seq_in tOk ?_;(conv=>whnf);refine gdI g3 (fun g3=>?_);(conv=>whnf);refine gdI g3 (fun g3=>?_);(conv=>whnf);refine gdI g3 (fun g3=>?_);(conv=>whnf);refine gdI g3 (fun g3=>?_);(conv=>whnf);obtain rfl:=Option.some.inj g3;exact ⟨_,rfl,leX []⟩
    · (conv=>whnf);obtain rfl:=Option.some.inj g3;obtain rfl:=hy2 _ rfl;obtain rfl:=Option.some.inj h;exact lfP []
noncomputable def impl_HelloSum_m (a0:Int) (a1:HelloWord):Option (Int) :=
 bd (impl_takeIn_m 0 ([a0,a1.From,a1.To,a1.Key,a1.Boot,a1.Yours,a1.Turn,a1.Num,a1.Heard]:List Int)) fun x1 =>
 bd (impl_takeIn_m x1 ([a1.Change.Kind,a1.Change.Entry.Addr,a1.Change.Entry.Len,a1.Change.Entry.Cost,a1.Change.Entry.Label,a0]:List Int)) fun x2 =>
 some x2
theorem impl_HelloSum_c {a0:Int} {a1:HelloWord} {r:Int} (h:impl_HelloSum_m a0 a1=some r):PureC Tryz.prog 73 [.d (.int .i64 a0),.agg [.d (.int .i64 a1.From),.d (.int .i64 a1.To),.d (.int .i64 a1.Key),.d (.int .i64 a1.Boot),.d (.int .i64 a1.Yours),.d (.int .i64 a1.Turn),.d (.int .i64 a1.Num),.d (.int .i64 a1.Heard),.d (.int .i64 a1.Change.Kind),.d (.int .i64 a1.Change.Entry.Addr),.d (.int .i64 a1.Change.Entry.Len),.d (.int .i64 a1.Change.Entry.Cost),.d (.int .i64 a1.Change.Entry.Label),.d (.int .i64 a1.Sum)]] (.d (.int .i64 r)) []:=by
  refine pureC_x tOk (fn:=Tryz.f73) (c:=codeOf Tryz.f73) rfl rfl ?_;unfold impl_HelloSum_m at h;(conv=>whnf);refine bldS (enc:=encInt) ([a0,a1.From,a1.To,a1.Key,a1.Boot,a1.Yours,a1.Turn,a1.Num,a1.Heard]:List Int) ?_;(conv=>whnf);obtain ⟨x1,hx1,h⟩:=bd_some h;refine cC 0 (impl_takeIn_c hx1) ?_;clear hx1;(conv=>whnf);refine bldS (enc:=encInt) ([a1.Change.Kind,a1.Change.Entry.Addr,a1.Change.Entry.Len,a1.Change.Entry.Cost,a1.Change.Entry.Label,a0]:List Int) ?_;(conv=>whnf);obtain ⟨x2,hx2,h⟩:=bd_some h;refine cC 0 (impl_takeIn_c hx2) ?_;clear hx2;(conv=>whnf);obtain rfl:=Option.some.inj h;exact lfP []
noncomputable def impl_HelloRight_1_m (a0:HelloKey) (a1:HelloWord):Option (Bool) :=
 bd (gcall ((a0.Id == a1.Key)=true) (impl_HelloSum_m a0.Secret a1)) fun x1 =>
 some ((a0.Id == a1.Key) && (x1 == a1.Sum))
theorem impl_HelloRight_1_c {a0:HelloKey} {a1:HelloWord} {r:Bool} (h:impl_HelloRight_1_m a0 a1=some r):PureC Tryz.prog 72 [.agg [.d (.int .i64 a0.Id),.d (.int .i64 a0.Secret)],.rp [.int .i64 a1.From,.int .i64 a1.To,.int .i64 a1.Key,.int .i64 a1.Boot,.int .i64 a1.Yours,.int .i64 a1.Turn,.int .i64 a1.Num,.int .i64 a1.Heard,.int .i64 a1.Change.Kind,.int .i64 a1.Change.Entry.Addr,.int .i64 a1.Change.Entry.Len,.int .i64 a1.Change.Entry.Cost,.int .i64 a1.Change.Entry.Label,.int .i64 a1.Sum]] (.d (.bool r)) []:=by
  refine pureC_x tOk (fn:=Tryz.f72) (c:=codeOf Tryz.f72) rfl rfl ?_;unfold impl_HelloRight_1_m at h;(conv=>whnf);obtain ⟨x1,hx1,h⟩:=bd_some h;refine draw_u tOk [.u 9 0 (.d (.int .i64 x1)) []] 15 [] [0,1,0,4,15,31,63,127,63,511,63,1087,4095,8191,16383] [] ?_;(conv=>whnf);refine And.intro (callDG_if rfl rfl rfl rfl (by intro c0; exact impl_HelloSum_c (gcall_some hx1 c0))) ?_;(conv=>whnf);refine And.intro (by kernel_rfl) ?_;(conv=>whnf);obtain rfl:=Option.some.inj h;exact lfP []
noncomputable def slices_IndexFunc_HelloKey_HelloKey_impl_HelloRight_1_m (a0:(List HelloKey)) (a1c0:HelloWord):Option (Int) :=
 bd (lp (σ:=Int) (β:=(Int ⊕ Unit)) (fun s1 =>
(if (decide (s1<((a0.length:Nat):Int)))=true then
 gd ((0:Int)≤s1∧s1<((a0.length:Nat):Int)) <|
 bd (impl_HelloRight_1_m (a0.getD s1.toNat default) a1c0) fun x6 =>
(if x6=true then
 some (.inr (.inl s1))
else
 some (.inl (IntKind.i64.wrap (s1+1))))
else
 some (.inr (.inr ())))) 0) fun x4 =>
(match x4 with
| .inl d7 =>
 some d7
| .inr d8 =>
 some (-1))
theorem slices_IndexFunc_HelloKey_HelloKey_impl_HelloRight_1_c {a0:(List HelloKey)} {a1c0:HelloWord} {r:Int} (h:slices_IndexFunc_HelloKey_HelloKey_impl_HelloRight_1_m a0 a1c0=some r):PureC Tryz.prog 117 [.d (slD HelloKey.enc a0),.fn 72 [.rp [.int .i64 a1c0.From,.int .i64 a1c0.To,.int .i64 a1c0.Key,.int .i64 a1c0.Boot,.int .i64 a1c0.Yours,.int .i64 a1c0.Turn,.int .i64 a1c0.Num,.int .i64 a1c0.Heard,.int .i64 a1c0.Change.Kind,.int .i64 a1c0.Change.Entry.Addr,.int .i64 a1c0.Change.Entry.Len,.int .i64 a1c0.Change.Entry.Cost,.int .i64 a1c0.Change.Entry.Label,.int .i64 a1c0.Sum]]] (.d (.int .i64 r)) []:=by
  refine pureC_x tOk (fn:=Tryz.f117) (c:=codeOf Tryz.f117) rfl rfl ?_;unfold slices_IndexFunc_HelloKey_HelloKey_impl_HelloRight_1_m at h;(conv=>whnf);refine seq_in tOk ?_;(conv=>whnf);obtain ⟨x4,hx4,h⟩:=bd_some h;refine loop_m tOk hx4 (fun s1=>⟨0,19,[(0,.d (slD HelloKey.enc a0)),(1,.fn 72 [.rp [.int .i64 a1c0.From,.int .i64 a1c0.To,.int .i64 a1c0.Key,.int .i64 a1c0.Boot,.int .i64 a1c0.Yours,.int .i64 a1c0.Turn,.int .i64 a1c0.Num,.int .i64 a1c0.Heard,.int .i64 a1c0.Change.Kind,.int .i64 a1c0.Change.Entry.Addr,.int .i64 a1c0.Change.Entry.Len,.int .i64 a1c0.Change.Entry.Cost,.int .i64 a1c0.Change.Entry.Label,.int .i64 a1c0.Sum]]),(7,.d (.int .i64 ((a0.length:Nat):Int))),(8,.d (.int .i64 s1))],[],[],[]⟩) ?_ ?_
  · exact leX []
  · clear hx4;intro s1 y2 g3 hy2;(conv=>whnf);refine seq_in tOk ?_;(conv=>whnf);refine andI g3 (fun _ g3=>?_) (fun _ g3=>?_)
    · (conv=>whnf);refine seq_in tOk ?_;(conv=>whnf);refine gdI g3 (fun g3=>?_);(conv=>whnf);obtain ⟨x6,hx6,g3⟩:=bd_some g3;refine cC 0 (impl_HelloRight_1_c hx6) ?_;clear hx6;(conv=>whnf);refine andI g3 (fun _ g3=>?_) (fun _ g3=>?_)
      · (conv=>whnf);obtain rfl:=Option.some.inj g3;obtain rfl:=hy2 _ rfl;obtain rfl:=Option.some.inj h;exact lfP []
      · (conv=>whnf);obtain rfl:=Option.some.inj g3;exact ⟨_,rfl,leX []⟩
    · (conv=>whnf);obtain rfl:=Option.some.inj g3;obtain rfl:=hy2 _ rfl;obtain rfl:=Option.some.inj h;exact lfP []
noncomputable def slices_ContainsFunc_HelloKey_HelloKey_impl_HelloRight_1_m (a0:(List HelloKey)) (a1c0:HelloWord):Option (Bool) :=
 bd (slices_IndexFunc_HelloKey_HelloKey_impl_HelloRight_1_m a0 a1c0) fun x1 =>
 some (decide (x1 ≥ 0))
theorem slices_ContainsFunc_HelloKey_HelloKey_impl_HelloRight_1_c {a0:(List HelloKey)} {a1c0:HelloWord} {r:Bool} (h:slices_ContainsFunc_HelloKey_HelloKey_impl_HelloRight_1_m a0 a1c0=some r):PureC Tryz.prog 71 [.d (slD HelloKey.enc a0),.fn 72 [.rp [.int .i64 a1c0.From,.int .i64 a1c0.To,.int .i64 a1c0.Key,.int .i64 a1c0.Boot,.int .i64 a1c0.Yours,.int .i64 a1c0.Turn,.int .i64 a1c0.Num,.int .i64 a1c0.Heard,.int .i64 a1c0.Change.Kind,.int .i64 a1c0.Change.Entry.Addr,.int .i64 a1c0.Change.Entry.Len,.int .i64 a1c0.Change.Entry.Cost,.int .i64 a1c0.Change.Entry.Label,.int .i64 a1c0.Sum]]] (.d (.bool r)) []:=by
  refine pureC_x tOk (fn:=Tryz.f71) (c:=codeOf Tryz.f71) rfl rfl ?_;unfold slices_ContainsFunc_HelloKey_HelloKey_impl_HelloRight_1_m at h;(conv=>whnf);obtain ⟨x1,hx1,h⟩:=bd_some h;refine cC 0 (slices_IndexFunc_HelloKey_HelloKey_impl_HelloRight_1_c hx1) ?_;clear hx1;(conv=>whnf);obtain rfl:=Option.some.inj h;exact lfP []
noncomputable def impl_HelloRight_m (a0:(List HelloKey)) (a1:HelloWord):Option (Bool) :=
 bd (impl_HelloKeysOk_m a0) fun x1 =>
 bd (gcall (x1=true) (impl_HelloWordOk_m a1)) fun x2 =>
 bd (gcall ((x1 && x2)=true) (slices_ContainsFunc_HelloKey_HelloKey_impl_HelloRight_1_m a0 a1)) fun x3 =>
 some ((x1 && x2) && x3)
theorem impl_HelloRight_c {a0:(List HelloKey)} {a1:HelloWord} {r:Bool} (h:impl_HelloRight_m a0 a1=some r):PureC Tryz.prog 24 [.d (slD HelloKey.enc a0),.agg [.d (.int .i64 a1.From),.d (.int .i64 a1.To),.d (.int .i64 a1.Key),.d (.int .i64 a1.Boot),.d (.int .i64 a1.Yours),.d (.int .i64 a1.Turn),.d (.int .i64 a1.Num),.d (.int .i64 a1.Heard),.d (.int .i64 a1.Change.Kind),.d (.int .i64 a1.Change.Entry.Addr),.d (.int .i64 a1.Change.Entry.Len),.d (.int .i64 a1.Change.Entry.Cost),.d (.int .i64 a1.Change.Entry.Label),.d (.int .i64 a1.Sum)]] (.d (.bool r)) []:=by
  refine pureC_x tOk (fn:=Tryz.f24) (c:=codeOf Tryz.f24) rfl rfl ?_;unfold impl_HelloRight_m at h;(conv=>whnf);obtain ⟨x1,hx1,h⟩:=bd_some h;refine cC 0 (impl_HelloKeysOk_c hx1) ?_;clear hx1;(conv=>whnf);obtain ⟨x2,hx2,h⟩:=bd_some h;refine cG (fun c0=>impl_HelloWordOk_c (gcall_some hx2 c0)) ?_;(conv=>whnf);obtain ⟨x3,hx3,h⟩:=bd_some h;refine cG (fun c0=>slices_ContainsFunc_HelloKey_HelloKey_impl_HelloRight_1_c (gcall_some hx3 c0)) ?_;(conv=>whnf);obtain rfl:=Option.some.inj h;exact lfP []
end Go.Proofs.YtaoeomoepefojaaGreat
