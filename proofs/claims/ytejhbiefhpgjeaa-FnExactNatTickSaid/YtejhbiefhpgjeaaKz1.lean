/-
  What some of the program's functions compute: their models, and that the functions compute these; no condition.
-/
import Derived.Test.YtejhbiefhpgjeaaTyz
import Derived.Test.YtejhbiefhpgjeaaTbz
set_option linter.all false
namespace Go.Proofs.Ytejhbiefhpgjeaa
open Go Go.Ab
set_option maxRecDepth 100000
set_option maxHeartbeats 40000000
noncomputable def laws_szNatDoorS_m (a0:(List NatDoor)) (a1:Int):Option (Int) :=
(if (decide ((IntKind.i64.wrap (a1 - ((a0.length:Nat):Int)))<0)) = true then
 some (-1)
else
 some (IntKind.i64.wrap (a1 - ((a0.length:Nat):Int))))
theorem laws_szNatDoorS_c {a0:(List NatDoor)} {a1:Int} {r:Int} (h:laws_szNatDoorS_m a0 a1 = some r):PureC Try.prog 45 [.d (slD NatDoor.enc a0),.d (.int .i64 a1)] (.d (.int .i64 r)) []:=by
  refine pureC_x tOk (fn:=Try.f45) (c:=codeOf Try.f45) rfl rfl ?_;unfold laws_szNatDoorS_m at h;(conv=>whnf);refine seq_in tOk ?_;(conv=>whnf);refine andI h (fun _ h=>?_) (fun _ h=>?_)
  · (conv=>whnf);obtain rfl:=Option.some.inj h;exact lfP []
  · (conv=>whnf);obtain rfl:=Option.some.inj h;exact lfP []
noncomputable def laws_szNatEntryS_m (a0:(List NatEntry)) (a1:Int):Option (Int) :=
(if (decide ((IntKind.i64.wrap (a1 - ((a0.length:Nat):Int)))<0)) = true then
 some (-1)
else
 some (IntKind.i64.wrap (a1 - ((a0.length:Nat):Int))))
theorem laws_szNatEntryS_c {a0:(List NatEntry)} {a1:Int} {r:Int} (h:laws_szNatEntryS_m a0 a1 = some r):PureC Try.prog 46 [.d (slD NatEntry.enc a0),.d (.int .i64 a1)] (.d (.int .i64 r)) []:=by
  refine pureC_x tOk (fn:=Try.f46) (c:=codeOf Try.f46) rfl rfl ?_;unfold laws_szNatEntryS_m at h;(conv=>whnf);refine seq_in tOk ?_;(conv=>whnf);refine andI h (fun _ h=>?_) (fun _ h=>?_)
  · (conv=>whnf);obtain rfl:=Option.some.inj h;exact lfP []
  · (conv=>whnf);obtain rfl:=Option.some.inj h;exact lfP []
noncomputable def laws_szNatBook_m (a0:NatBook) (a1:Int):Option (Int) :=
 bd (laws_szNatDoorS_m a0.Doors a1) fun x1 =>
(if (decide (x1<0)) = true then
 some (-1)
else
 bd (laws_szNatEntryS_m a0.Entries x1) fun x2 =>
(if (decide (x2<0)) = true then
 some (-1)
else
 some x2))
theorem laws_szNatBook_c {a0:NatBook} {a1:Int} {r:Int} (h:laws_szNatBook_m a0 a1 = some r):PureC Try.prog 17 [.agg [.d (.int .i64 a0.Addr),.d (.int .i64 a0.Len),.d (.int .i64 a0.Own),.d (.int .i64 a0.Low),.d (.int .i64 a0.High),.d (slD NatDoor.enc a0.Doors),.d (.int .i64 a0.Now),.d (slD NatEntry.enc a0.Entries)],.d (.int .i64 a1)] (.d (.int .i64 r)) []:=by
  refine pureC_x tOk (fn:=Try.f17) (c:=codeOf Try.f17) rfl rfl ?_;unfold laws_szNatBook_m at h;(conv=>whnf);obtain ⟨x1,hx1,h⟩:=bd_some h;refine cC 0 (laws_szNatDoorS_c hx1) ?_;clear hx1;(conv=>whnf);refine seq_in tOk ?_;(conv=>whnf);refine andI h (fun _ h=>?_) (fun _ h=>?_)
  · (conv=>whnf);obtain rfl:=Option.some.inj h;exact lfP []
  · (conv=>whnf);obtain ⟨x2,hx2,h⟩:=bd_some h;refine cC 0 (laws_szNatEntryS_c hx2) ?_;clear hx2;(conv=>whnf);refine seq_in tOk ?_;(conv=>whnf);refine andI h (fun _ h=>?_) (fun _ h=>?_)
    · (conv=>whnf);obtain rfl:=Option.some.inj h;exact lfP []
    · (conv=>whnf);obtain rfl:=Option.some.inj h;exact lfP []
noncomputable def laws_toNatDoor_m (a0:NatDoor):Option (NatDoor) :=
 some a0
theorem laws_toNatDoor_c {a0:NatDoor} {r:NatDoor} (h:laws_toNatDoor_m a0 = some r):PureC Try.prog 105 [.agg [.d (.int .i64 a0.Kind),.d (.int .i64 a0.Outer),.d (.int .i64 a0.Inner),.d (.int .i64 a0.InnerPort)]] (.agg [.d (.int .i64 r.Kind),.d (.int .i64 r.Outer),.d (.int .i64 r.Inner),.d (.int .i64 r.InnerPort)]) []:=by
  refine pureC_x tOk (fn:=Try.f105) (c:=codeOf Try.f105) rfl rfl ?_;unfold laws_toNatDoor_m at h;(conv=>whnf);obtain rfl:=Option.some.inj h;exact lfP []
noncomputable def laws_toNatDoorS_m (a0:(List NatDoor)):Option ((List NatDoor)) :=
 gd ((0:Int)≤((a0.length:Nat):Int)∧((a0.length:Nat):Int)≤((a0.length:Nat):Int)∧((a0.length:Nat):Int) * 32≤140737488355328∧((a0.length:Nat):Int)≤140737488355328) <|
 bd (lp (σ:=List NatDoor × Int) (β:=(Nat × (List NatDoor))) (fun s1 =>
(if (decide (s1.2<((a0.length:Nat):Int))) = true then
 gd ((0:Int)≤s1.2∧s1.2<((a0.length:Nat):Int)) <|
 bd (laws_toNatDoor_m (a0.getD s1.2.toNat default)) fun x6 =>
 gd ((0:Int)≤s1.2∧s1.2<((s1.1.length:Nat):Int)) <|
 some (.inl (s1.1.set s1.2.toNat x6,IntKind.i64.wrap (s1.2+1)))
else
 some (.inr (s1.1.length,s1.1)))) ((List.replicate (((a0.length:Nat):Int):Int).toNat (default:NatDoor)),0)) fun x4 =>
 some x4.2
theorem laws_toNatDoorS_c {a0:(List NatDoor)} {r:(List NatDoor)} (h:laws_toNatDoorS_m a0 = some r):PureC Try.prog 48 [.d (slD NatDoor.enc a0)] (.osl 5001 0 r.length) [⟨5001,104,4,r.length,rows NatDoor.enc r⟩]:=by
  refine pureC_x tOk (fn:=Try.f48) (c:=codeOf Try.f48) rfl rfl ?_;unfold laws_toNatDoorS_m at h;(conv=>whnf);obtain ⟨g9,h⟩:=gd_some h;refine And.intro g9 ?_;clear g9;refine ⟨(List.replicate (((a0.length:Nat):Int):Int).toNat (default:NatDoor)).length,rows NatDoor.enc (List.replicate (((a0.length:Nat):Int):Int).toNat (default:NatDoor)),by simp,make_rows rfl,?_⟩;(conv=>whnf);refine seq_in tOk ?_;(conv=>whnf);obtain ⟨x4,hx4,h⟩:=bd_some h;refine loop_m tOk hx4 (fun s1=>⟨0,23,[(0,.d (slD NatDoor.enc a0)),(3,.osl 7 0 s1.1.length),(4,.d (.int .i64 s1.2))],[],[(7,.arr 104 4 s1.1.length (rows NatDoor.enc s1.1))],[]⟩) ?_ ?_
  · exact leX []
  · clear hx4;intro s1 y2 g3 hy2;(conv=>whnf);refine seq_in tOk ?_;(conv=>whnf);refine andI g3 (fun _ g3=>?_) (fun _ g3=>?_)
    · (conv=>whnf);refine seq_in tOk ?_;(conv=>whnf);refine gdI g3 (fun g3=>?_);(conv=>whnf);obtain ⟨x6,hx6,g3⟩:=bd_some g3;refine cC 0 (laws_toNatDoor_c hx6) ?_;clear hx6;(conv=>whnf);refine gdI g3 (fun g3=>?_);(conv=>whnf);refine ⟨rows NatDoor.enc (s1.1.set s1.2.toNat x6),store_rows' lenA rfl,?_⟩;(conv=>whnf);obtain rfl:=Option.some.inj g3;exact ⟨_,rfl,leX []⟩
    · (conv=>whnf);obtain rfl:=Option.some.inj g3;obtain rfl:=hy2 _ rfl;obtain rfl:=Option.some.inj h;exact lfP [.s [(7,5001),(5001,7)]]
noncomputable def laws_toNatEntry_m (a0:NatEntry):Option (NatEntry) :=
 some a0
theorem laws_toNatEntry_c {a0:NatEntry} {r:NatEntry} (h:laws_toNatEntry_m a0 = some r):PureC Try.prog 106 [.agg [.d (.int .i64 a0.Kind),.d (.int .i64 a0.Peer),.d (.int .i64 a0.PeerPort),.d (.int .i64 a0.Outer),.d (.int .i64 a0.Inner),.d (.int .i64 a0.InnerPort),.d (.int .i64 a0.Last)]] (.agg [.d (.int .i64 r.Kind),.d (.int .i64 r.Peer),.d (.int .i64 r.PeerPort),.d (.int .i64 r.Outer),.d (.int .i64 r.Inner),.d (.int .i64 r.InnerPort),.d (.int .i64 r.Last)]) []:=by
  refine pureC_x tOk (fn:=Try.f106) (c:=codeOf Try.f106) rfl rfl ?_;unfold laws_toNatEntry_m at h;(conv=>whnf);obtain rfl:=Option.some.inj h;exact lfP []
noncomputable def laws_toNatEntryS_m (a0:(List NatEntry)):Option ((List NatEntry)) :=
 gd ((0:Int)≤((a0.length:Nat):Int)∧((a0.length:Nat):Int)≤((a0.length:Nat):Int)∧((a0.length:Nat):Int) * 56≤140737488355328∧((a0.length:Nat):Int)≤140737488355328) <|
 bd (lp (σ:=List NatEntry × Int) (β:=(Nat × (List NatEntry))) (fun s1 =>
(if (decide (s1.2<((a0.length:Nat):Int))) = true then
 gd ((0:Int)≤s1.2∧s1.2<((a0.length:Nat):Int)) <|
 bd (laws_toNatEntry_m (a0.getD s1.2.toNat default)) fun x6 =>
 gd ((0:Int)≤s1.2∧s1.2<((s1.1.length:Nat):Int)) <|
 some (.inl (s1.1.set s1.2.toNat x6,IntKind.i64.wrap (s1.2+1)))
else
 some (.inr (s1.1.length,s1.1)))) ((List.replicate (((a0.length:Nat):Int):Int).toNat (default:NatEntry)),0)) fun x4 =>
 some x4.2
theorem laws_toNatEntryS_c {a0:(List NatEntry)} {r:(List NatEntry)} (h:laws_toNatEntryS_m a0 = some r):PureC Try.prog 49 [.d (slD NatEntry.enc a0)] (.osl 5001 0 r.length) [⟨5001,65,7,r.length,rows NatEntry.enc r⟩]:=by
  refine pureC_x tOk (fn:=Try.f49) (c:=codeOf Try.f49) rfl rfl ?_;unfold laws_toNatEntryS_m at h;(conv=>whnf);obtain ⟨g9,h⟩:=gd_some h;refine And.intro g9 ?_;clear g9;refine ⟨(List.replicate (((a0.length:Nat):Int):Int).toNat (default:NatEntry)).length,rows NatEntry.enc (List.replicate (((a0.length:Nat):Int):Int).toNat (default:NatEntry)),by simp,make_rows rfl,?_⟩;(conv=>whnf);refine seq_in tOk ?_;(conv=>whnf);obtain ⟨x4,hx4,h⟩:=bd_some h;refine loop_m tOk hx4 (fun s1=>⟨0,23,[(0,.d (slD NatEntry.enc a0)),(3,.osl 7 0 s1.1.length),(4,.d (.int .i64 s1.2))],[],[(7,.arr 65 7 s1.1.length (rows NatEntry.enc s1.1))],[]⟩) ?_ ?_
  · exact leX []
  · clear hx4;intro s1 y2 g3 hy2;(conv=>whnf);refine seq_in tOk ?_;(conv=>whnf);refine andI g3 (fun _ g3=>?_) (fun _ g3=>?_)
    · (conv=>whnf);refine seq_in tOk ?_;(conv=>whnf);refine gdI g3 (fun g3=>?_);(conv=>whnf);obtain ⟨x6,hx6,g3⟩:=bd_some g3;refine cC 0 (laws_toNatEntry_c hx6) ?_;clear hx6;(conv=>whnf);refine gdI g3 (fun g3=>?_);(conv=>whnf);refine ⟨rows NatEntry.enc (s1.1.set s1.2.toNat x6),store_rows' lenA rfl,?_⟩;(conv=>whnf);obtain rfl:=Option.some.inj g3;exact ⟨_,rfl,leX []⟩
    · (conv=>whnf);obtain rfl:=Option.some.inj g3;obtain rfl:=hy2 _ rfl;obtain rfl:=Option.some.inj h;exact lfP [.s [(7,5001),(5001,7)]]
noncomputable def laws_toNatBook_m (a0:NatBook):Option (NatBook) :=
 bd (laws_toNatDoorS_m a0.Doors) fun x1 =>
 bd (laws_toNatEntryS_m a0.Entries) fun x2 =>
 some ({ a0 with Doors:=x1,Entries:=x2 })
theorem laws_toNatBook_c {a0:NatBook} {r:NatBook} (h:laws_toNatBook_m a0 = some r):PureC Try.prog 19 [.agg [.d (.int .i64 a0.Addr),.d (.int .i64 a0.Len),.d (.int .i64 a0.Own),.d (.int .i64 a0.Low),.d (.int .i64 a0.High),.d (slD NatDoor.enc a0.Doors),.d (.int .i64 a0.Now),.d (slD NatEntry.enc a0.Entries)]] (.agg [.d (.int .i64 r.Addr),.d (.int .i64 r.Len),.d (.int .i64 r.Own),.d (.int .i64 r.Low),.d (.int .i64 r.High),.osl 5001 0 r.Doors.length,.d (.int .i64 r.Now),.osl 5002 0 r.Entries.length]) [⟨5001,104,4,r.Doors.length,rows NatDoor.enc r.Doors⟩,⟨5002,65,7,r.Entries.length,rows NatEntry.enc r.Entries⟩]:=by
  refine pureC_x tOk (fn:=Try.f19) (c:=codeOf Try.f19) rfl rfl ?_;unfold laws_toNatBook_m at h;(conv=>whnf);obtain ⟨x1,hx1,h⟩:=bd_some h;refine cC 1000 (laws_toNatDoorS_c hx1) ?_;clear hx1;(conv=>whnf);obtain ⟨x2,hx2,h⟩:=bd_some h;refine cC 2000 (laws_toNatEntryS_c hx2) ?_;clear hx2;(conv=>whnf);obtain rfl:=Option.some.inj h;exact lfP [.s [(5001,6001),(5002,7001),(6001,5001),(7001,5002)]]
noncomputable def spec_l21In_m (a0:Int) (a1:Int) (a2:Int):Option (Bool) :=
 some ((decide (a0 ≥ a1)) && (decide (a0≤a2)))
theorem spec_l21In_c {a0:Int} {a1:Int} {a2:Int} {r:Bool} (h:spec_l21In_m a0 a1 a2 = some r):PureC Try.prog 118 [.d (.int .i64 a0),.d (.int .i64 a1),.d (.int .i64 a2)] (.d (.bool r)) []:=by
  refine pureC_x tOk (fn:=Try.f118) (c:=codeOf Try.f118) rfl rfl ?_;unfold spec_l21In_m at h;(conv=>whnf);obtain rfl:=Option.some.inj h;exact lfP []
noncomputable def spec_l22Size_m (a0:Int):Option (Int) :=
 bd (lp (σ:=Int × Int) (β:=(Int)) (fun s1 =>
(if (decide (s1.2<16)) = true then
 some (.inl (IntKind.i64.wrap (s1.1 * 2),IntKind.i64.wrap (s1.2+1)))
else
 some (.inr s1.1))) (1,a0)) fun x4 =>
 some x4
theorem spec_l22Size_c {a0:Int} {r:Int} (h:spec_l22Size_m a0 = some r):PureC Try.prog 119 [.d (.int .i64 a0)] (.d (.int .i64 r)) []:=by
  refine pureC_x tOk (fn:=Try.f119) (c:=codeOf Try.f119) rfl rfl ?_;unfold spec_l22Size_m at h;(conv=>whnf);refine seq_in tOk ?_;(conv=>whnf);obtain ⟨x4,hx4,h⟩:=bd_some h;refine loop_m tOk hx4 (fun s1=>⟨0,13,[(3,.d (.int .i64 s1.1)),(4,.d (.int .i64 s1.2))],[],[],[]⟩) ?_ ?_
  · exact leX []
  · clear hx4;intro s1 y2 g3 hy2;(conv=>whnf);refine seq_in tOk ?_;(conv=>whnf);refine andI g3 (fun _ g3=>?_) (fun _ g3=>?_)
    · (conv=>whnf);refine seq_in tOk ?_;(conv=>whnf);obtain rfl:=Option.some.inj g3;exact ⟨_,rfl,leX []⟩
    · (conv=>whnf);obtain rfl:=Option.some.inj g3;obtain rfl:=hy2 _ rfl;obtain rfl:=Option.some.inj h;exact lfP []
noncomputable def spec_l22Inside_m (a0:NatBook) (a1:Int):Option (Bool) :=
 bd (gcall ((decide (a1 ≥ a0.Addr)) = true) (spec_l22Size_m a0.Len)) fun x1 =>
 some ((decide (a1 ≥ a0.Addr)) && (decide (a1<(IntKind.i64.wrap (a0.Addr+x1)))))
theorem spec_l22Inside_c {a0:NatBook} {a1:Int} {r:Bool} (h:spec_l22Inside_m a0 a1 = some r):PureC Try.prog 75 [.agg [.d (.int .i64 a0.Addr),.d (.int .i64 a0.Len),.d (.int .i64 a0.Own),.d (.int .i64 a0.Low),.d (.int .i64 a0.High),.d (slD NatDoor.enc a0.Doors),.d (.int .i64 a0.Now),.d (slD NatEntry.enc a0.Entries)],.d (.int .i64 a1)] (.d (.bool r)) []:=by
  refine pureC_x tOk (fn:=Try.f75) (c:=codeOf Try.f75) rfl rfl ?_;unfold spec_l22Inside_m at h;(conv=>whnf);obtain ⟨x1,hx1,h⟩:=bd_some h;refine draw_u tOk [.u 10 0 (.d (.int .i64 x1)) []] 15 [] [0,0,2,7,15,31,31,95,31,287,799,2015,4095,8191,16383] [] ?_;(conv=>whnf);refine And.intro (callDG_if rfl rfl rfl rfl (by intro c0; exact spec_l22Size_c (gcall_some hx1 c0))) ?_;(conv=>whnf);refine And.intro (by kernel_rfl) ?_;(conv=>whnf);obtain rfl:=Option.some.inj h;exact lfP []
noncomputable def spec_l22Frame_m (a0:NatBook):Option (Bool) :=
 bd (spec_l21In_m a0.Len 0 16) fun x1 =>
 bd (gcall ((!x1) = false) (spec_l21In_m a0.Addr 0 65535)) fun x2 =>
 bd (gcall (((!x1) || (!x2)) = false) (spec_l22Size_m a0.Len)) fun x3 =>
 gd (((!x1) || (!x2)) = false → ((x3:Int) ≠ 0)) <|
(if (((!x1) || (!x2)) || (((a0.Addr:Int).tmod x3) != 0)) = true then
 some false
else
 bd (spec_l21In_m a0.Own 0 65535) fun x5 =>
 bd (gcall ((!x5) = false) (spec_l22Inside_m a0 a0.Own)) fun x6 =>
(if ((!x5) || x6) = true then
 some false
else
 bd (gcall ((((decide (a0.Low ≥ 1)) && (decide (a0.Low≤a0.High))) && (decide (a0.High≤65535))) = true) (spec_l21In_m a0.Now 0 1000000)) fun x7 =>
 some ((((decide (a0.Low ≥ 1)) && (decide (a0.Low≤a0.High))) && (decide (a0.High≤65535))) && x7)))
theorem spec_l22Frame_c {a0:NatBook} {r:Bool} (h:spec_l22Frame_m a0 = some r):PureC Try.prog 68 [.agg [.d (.int .i64 a0.Addr),.d (.int .i64 a0.Len),.d (.int .i64 a0.Own),.d (.int .i64 a0.Low),.d (.int .i64 a0.High),.d (slD NatDoor.enc a0.Doors),.d (.int .i64 a0.Now),.d (slD NatEntry.enc a0.Entries)]] (.d (.bool r)) []:=by
  refine pureC_x tOk (fn:=Try.f68) (c:=codeOf Try.f68) rfl rfl ?_;unfold spec_l22Frame_m at h;(conv=>whnf);refine seq_in tOk ?_;(conv=>whnf);obtain ⟨x1,hx1,h⟩:=bd_some h;obtain ⟨x2,hx2,h⟩:=bd_some h;obtain ⟨x3,hx3,h⟩:=bd_some h;obtain ⟨g4,h⟩:=gd_some h;refine draw_u tOk [.u 2 0 (.d (.bool x1)) [],.u 7 0 (.d (.bool x2)) [],.u 15 0 (.d (.int .i64 x3)) []] 19 [] [0,1,3,7,15,31,63,127,255,511,1023,2047,4095,2047,10239,26623,65535,131071,262143] [] ?_;(conv=>whnf);refine And.intro (callD_any (spec_l21In_c hx1) (by kernel_rfl)) ?_;(conv=>whnf);refine And.intro (callDG_if rfl rfl rfl rfl (by intro c0; exact spec_l21In_c (gcall_some hx2 c0))) ?_;(conv=>whnf);refine And.intro (callDG_if rfl rfl rfl rfl (by intro c0; exact spec_l22Size_c (gcall_some hx3 c0))) ?_;(conv=>whnf);refine And.intro g4 ?_;clear g4;(conv=>whnf);refine And.intro (by kernel_rfl) ?_;(conv=>whnf);refine andI h (fun _ h=>?_) (fun _ h=>?_)
  · (conv=>whnf);obtain rfl:=Option.some.inj h;exact lfP []
  · (conv=>whnf);refine seq_in tOk ?_;(conv=>whnf);obtain ⟨x5,hx5,h⟩:=bd_some h;refine cC 0 (spec_l21In_c hx5) ?_;clear hx5;(conv=>whnf);obtain ⟨x6,hx6,h⟩:=bd_some h;refine cG (fun c0=>spec_l22Inside_c (gcall_some hx6 c0)) ?_;(conv=>whnf);refine andI h (fun _ h=>?_) (fun _ h=>?_)
    · (conv=>whnf);obtain rfl:=Option.some.inj h;exact lfP []
    · (conv=>whnf);obtain ⟨x7,hx7,h⟩:=bd_some h;refine cG (fun c0=>spec_l21In_c (gcall_some hx7 c0)) ?_;(conv=>whnf);obtain rfl:=Option.some.inj h;exact lfP []
noncomputable def spec_l22DoorOk_m (a0:NatBook) (a1:NatDoor):Option (Bool) :=
 bd (spec_l21In_m a1.Kind 1 7) fun x1 =>
 bd (gcall (x1 = true) (spec_l21In_m a1.Outer 1 65535)) fun x2 =>
 bd (gcall ((x1 && x2) = true) (spec_l21In_m a1.Outer a0.Low a0.High)) fun x3 =>
 bd (gcall (((x1 && x2) && (!x3)) = true) (spec_l22Inside_m a0 a1.Inner)) fun x4 =>
 bd (gcall ((((x1 && x2) && (!x3)) && x4) = true) (spec_l21In_m a1.InnerPort 1 65535)) fun x5 =>
 some ((((x1 && x2) && (!x3)) && x4) && x5)
theorem spec_l22DoorOk_c {a0:NatBook} {a1:NatDoor} {r:Bool} (h:spec_l22DoorOk_m a0 a1 = some r):PureC Try.prog 120 [.agg [.d (.int .i64 a0.Addr),.d (.int .i64 a0.Len),.d (.int .i64 a0.Own),.d (.int .i64 a0.Low),.d (.int .i64 a0.High),.d (slD NatDoor.enc a0.Doors),.d (.int .i64 a0.Now),.d (slD NatEntry.enc a0.Entries)],.agg [.d (.int .i64 a1.Kind),.d (.int .i64 a1.Outer),.d (.int .i64 a1.Inner),.d (.int .i64 a1.InnerPort)]] (.d (.bool r)) []:=by
  refine pureC_x tOk (fn:=Try.f120) (c:=codeOf Try.f120) rfl rfl ?_;unfold spec_l22DoorOk_m at h;(conv=>whnf);obtain ⟨x1,hx1,h⟩:=bd_some h;refine cC 0 (spec_l21In_c hx1) ?_;clear hx1;(conv=>whnf);obtain ⟨x2,hx2,h⟩:=bd_some h;refine cG (fun c0=>spec_l21In_c (gcall_some hx2 c0)) ?_;(conv=>whnf);obtain ⟨x3,hx3,h⟩:=bd_some h;refine cG (fun c0=>spec_l21In_c (gcall_some hx3 c0)) ?_;(conv=>whnf);obtain ⟨x4,hx4,h⟩:=bd_some h;refine cG (fun c0=>spec_l22Inside_c (gcall_some hx4 c0)) ?_;(conv=>whnf);obtain ⟨x5,hx5,h⟩:=bd_some h;refine cG (fun c0=>spec_l21In_c (gcall_some hx5 c0)) ?_;(conv=>whnf);obtain rfl:=Option.some.inj h;exact lfP []
noncomputable def spec_l22Doors_m (a0:NatBook):Option (Bool) :=
(if (decide (((a0.Doors.length:Nat):Int) > 6)) = true then
 some false
else
 bd (lp (σ:=Int) (β:=(Unit ⊕ Unit)) (fun s1 =>
(if (decide (s1<((a0.Doors.length:Nat):Int))) = true then
 gd ((0:Int)≤s1∧s1<((a0.Doors.length:Nat):Int)) <|
 bd (spec_l22DoorOk_m a0 (a0.Doors.getD s1.toNat default)) fun x6 =>
(if (!x6) = true then
 some (.inr (.inl ()))
else
 bd (lp (σ:=Int) (β:=(Unit ⊕ Unit)) (fun s7 =>
(if (decide (s7<s1)) = true then
 gd ((0:Int)≤s7∧s7<((a0.Doors.length:Nat):Int)) <|
(if ((decide (((a0.Doors.getD s7.toNat default).Kind) > ((a0.Doors.getD s1.toNat default).Kind))) || ((((a0.Doors.getD s7.toNat default).Kind) == ((a0.Doors.getD s1.toNat default).Kind)) && ((decide (((a0.Doors.getD s7.toNat default).Outer) ≥ ((a0.Doors.getD s1.toNat default).Outer))) || ((((a0.Doors.getD s7.toNat default).Inner) == ((a0.Doors.getD s1.toNat default).Inner)) && (((a0.Doors.getD s7.toNat default).InnerPort) == ((a0.Doors.getD s1.toNat default).InnerPort)))))) = true then
 some (.inr (.inl ()))
else
 some (.inl (IntKind.i64.wrap (s7+1))))
else
 some (.inr (.inr ())))) 0) fun x10 =>
(match x10 with
| .inl d12 =>
 some (.inr (.inl ()))
| .inr d13 =>
 some (.inl (IntKind.i64.wrap (s1+1)))))
else
 some (.inr (.inr ())))) 0) fun x4 =>
(match x4 with
| .inl d14 =>
 some false
| .inr d15 =>
 some true))
theorem spec_l22Doors_c {a0:NatBook} {r:Bool} (h:spec_l22Doors_m a0 = some r):PureC Try.prog 69 [.agg [.d (.int .i64 a0.Addr),.d (.int .i64 a0.Len),.d (.int .i64 a0.Own),.d (.int .i64 a0.Low),.d (.int .i64 a0.High),.d (slD NatDoor.enc a0.Doors),.d (.int .i64 a0.Now),.d (slD NatEntry.enc a0.Entries)]] (.d (.bool r)) []:=by
  refine pureC_x tOk (fn:=Try.f69) (c:=codeOf Try.f69) rfl rfl ?_;unfold spec_l22Doors_m at h;(conv=>whnf);refine seq_in tOk ?_;(conv=>whnf);refine andI h (fun _ h=>?_) (fun _ h=>?_)
  · (conv=>whnf);obtain rfl:=Option.some.inj h;exact lfP []
  · (conv=>whnf);refine seq_in tOk ?_;(conv=>whnf);obtain ⟨x4,hx4,h⟩:=bd_some h;refine loop_m tOk hx4 (fun s1=>⟨0,70,[(1,.ref 1 0 0),(3,.d (.int .i64 s1))],[],[(1,.box 56 [.d (.int .i64 a0.Addr),.d (.int .i64 a0.Len),.d (.int .i64 a0.Own),.d (.int .i64 a0.Low),.d (.int .i64 a0.High),.d (slD NatDoor.enc a0.Doors),.d (.int .i64 a0.Now),.d (slD NatEntry.enc a0.Entries)])],[]⟩) ?_ ?_
    · exact leX []
    · clear hx4;intro s1 y2 g3 hy2;(conv=>whnf);refine seq_in tOk ?_;(conv=>whnf);refine andI g3 (fun _ g3=>?_) (fun _ g3=>?_)
      · (conv=>whnf);refine seq_in tOk ?_;(conv=>whnf);refine gdI g3 (fun g3=>?_);(conv=>whnf);refine seq_in tOk ?_;(conv=>whnf);obtain ⟨x6,hx6,g3⟩:=bd_some g3;refine cC 0 (spec_l22DoorOk_c hx6) ?_;clear hx6;(conv=>whnf);refine andI g3 (fun _ g3=>?_) (fun _ g3=>?_)
        · (conv=>whnf);obtain rfl:=Option.some.inj g3;obtain rfl:=hy2 _ rfl;obtain rfl:=Option.some.inj h;exact lfP []
        · (conv=>whnf);obtain ⟨x10,hx10,g3⟩:=bd_some g3;refine loop_m tOk hx10 (fun s7=>⟨0,70,[(1,.ref 1 0 0),(3,.d (.int .i64 s1)),(4,.ref 4 0 0),(5,.d (.int .i64 s7))],[],[(4,.box 104 [.d (.int .i64 ((a0.Doors.getD s1.toNat default).Kind)),.d (.int .i64 ((a0.Doors.getD s1.toNat default).Outer)),.d (.int .i64 ((a0.Doors.getD s1.toNat default).Inner)),.d (.int .i64 ((a0.Doors.getD s1.toNat default).InnerPort))]),(1,.box 56 [.d (.int .i64 a0.Addr),.d (.int .i64 a0.Len),.d (.int .i64 a0.Own),.d (.int .i64 a0.Low),.d (.int .i64 a0.High),.d (slD NatDoor.enc a0.Doors),.d (.int .i64 a0.Now),.d (slD NatEntry.enc a0.Entries)])],[]⟩) ?_ ?_
          · exact leX []
          · clear hx10;intro s7 y8 g9 hy8;(conv=>whnf);refine seq_in tOk ?_;(conv=>whnf);refine andI g9 (fun _ g9=>?_) (fun _ g9=>?_)
            · (conv=>whnf);refine seq_in tOk ?_;(conv=>whnf);refine gdI g9 (fun g9=>?_);(conv=>whnf);refine andI g9 (fun _ g9=>?_) (fun _ g9=>?_)
              · (conv=>whnf);obtain rfl:=Option.some.inj g9;obtain rfl:=hy8 _ rfl;obtain rfl:=Option.some.inj g3;obtain rfl:=hy2 _ rfl;obtain rfl:=Option.some.inj h;exact lfP []
              · (conv=>whnf);obtain rfl:=Option.some.inj g9;exact ⟨_,rfl,leX []⟩
            · (conv=>whnf);obtain rfl:=Option.some.inj g9;obtain rfl:=hy8 _ rfl;obtain rfl:=Option.some.inj g3;exact ⟨_,rfl,leX []⟩
      · (conv=>whnf);obtain rfl:=Option.some.inj g3;obtain rfl:=hy2 _ rfl;obtain rfl:=Option.some.inj h;exact lfP []
noncomputable def spec_l22EntryOk_m (a0:NatBook) (a1:NatEntry):Option (Bool) :=
 bd (spec_l21In_m a1.Kind 1 7) fun x1 =>
 bd (gcall ((!x1) = false) (spec_l21In_m a1.Peer 0 65535)) fun x2 =>
 bd (gcall (((!x1) || (!x2)) = false) (spec_l22Inside_m a0 a1.Peer)) fun x3 =>
 bd (gcall (((((!x1) || (!x2)) || x3) || (a1.Peer == a0.Own)) = false) (spec_l21In_m a1.PeerPort 1 65535)) fun x4 =>
(if (((((!x1) || (!x2)) || x3) || (a1.Peer == a0.Own)) || (!x4)) = true then
 some false
else
 bd (spec_l21In_m a1.Outer a0.Low a0.High) fun x5 =>
 bd (gcall ((!x5) = false) (spec_l22Inside_m a0 a1.Inner)) fun x6 =>
 bd (gcall (((!x5) || (!x6)) = false) (spec_l21In_m a1.InnerPort 1 65535)) fun x7 =>
(if (((!x5) || (!x6)) || (!x7)) = true then
 some false
else
 bd (spec_l21In_m a1.Last 0 a0.Now) fun x8 =>
 some (x8 && (decide ((IntKind.i64.wrap (a0.Now - a1.Last))<12)))))
theorem spec_l22EntryOk_c {a0:NatBook} {a1:NatEntry} {r:Bool} (h:spec_l22EntryOk_m a0 a1 = some r):PureC Try.prog 121 [.agg [.d (.int .i64 a0.Addr),.d (.int .i64 a0.Len),.d (.int .i64 a0.Own),.d (.int .i64 a0.Low),.d (.int .i64 a0.High),.d (slD NatDoor.enc a0.Doors),.d (.int .i64 a0.Now),.d (slD NatEntry.enc a0.Entries)],.agg [.d (.int .i64 a1.Kind),.d (.int .i64 a1.Peer),.d (.int .i64 a1.PeerPort),.d (.int .i64 a1.Outer),.d (.int .i64 a1.Inner),.d (.int .i64 a1.InnerPort),.d (.int .i64 a1.Last)]] (.d (.bool r)) []:=by
  refine pureC_x tOk (fn:=Try.f121) (c:=codeOf Try.f121) rfl rfl ?_;unfold spec_l22EntryOk_m at h;(conv=>whnf);refine seq_in tOk ?_;(conv=>whnf);obtain ⟨x1,hx1,h⟩:=bd_some h;refine cC 0 (spec_l21In_c hx1) ?_;clear hx1;(conv=>whnf);obtain ⟨x2,hx2,h⟩:=bd_some h;refine cG (fun c0=>spec_l21In_c (gcall_some hx2 c0)) ?_;(conv=>whnf);obtain ⟨x3,hx3,h⟩:=bd_some h;refine cG (fun c0=>spec_l22Inside_c (gcall_some hx3 c0)) ?_;(conv=>whnf);obtain ⟨x4,hx4,h⟩:=bd_some h;refine cG (fun c0=>spec_l21In_c (gcall_some hx4 c0)) ?_;(conv=>whnf);refine andI h (fun _ h=>?_) (fun _ h=>?_)
  · (conv=>whnf);obtain rfl:=Option.some.inj h;exact lfP []
  · (conv=>whnf);refine seq_in tOk ?_;(conv=>whnf);obtain ⟨x5,hx5,h⟩:=bd_some h;refine cC 0 (spec_l21In_c hx5) ?_;clear hx5;(conv=>whnf);obtain ⟨x6,hx6,h⟩:=bd_some h;refine cG (fun c0=>spec_l22Inside_c (gcall_some hx6 c0)) ?_;(conv=>whnf);obtain ⟨x7,hx7,h⟩:=bd_some h;refine cG (fun c0=>spec_l21In_c (gcall_some hx7 c0)) ?_;(conv=>whnf);refine andI h (fun _ h=>?_) (fun _ h=>?_)
    · (conv=>whnf);obtain rfl:=Option.some.inj h;exact lfP []
    · (conv=>whnf);obtain ⟨x8,hx8,h⟩:=bd_some h;refine cC 0 (spec_l21In_c hx8) ?_;clear hx8;(conv=>whnf);obtain rfl:=Option.some.inj h;exact lfP []
noncomputable def spec_l22Less_m (a0:NatEntry) (a1:NatEntry):Option (Bool) :=
(if (a0.Kind != a1.Kind) = true then
 some (decide (a0.Kind<a1.Kind))
else
(if (a0.Peer != a1.Peer) = true then
 some (decide (a0.Peer<a1.Peer))
else
(if (a0.PeerPort != a1.PeerPort) = true then
 some (decide (a0.PeerPort<a1.PeerPort))
else
 some (decide (a0.Outer<a1.Outer)))))
theorem spec_l22Less_c {a0:NatEntry} {a1:NatEntry} {r:Bool} (h:spec_l22Less_m a0 a1 = some r):PureC Try.prog 122 [.agg [.d (.int .i64 a0.Kind),.d (.int .i64 a0.Peer),.d (.int .i64 a0.PeerPort),.d (.int .i64 a0.Outer),.d (.int .i64 a0.Inner),.d (.int .i64 a0.InnerPort),.d (.int .i64 a0.Last)],.agg [.d (.int .i64 a1.Kind),.d (.int .i64 a1.Peer),.d (.int .i64 a1.PeerPort),.d (.int .i64 a1.Outer),.d (.int .i64 a1.Inner),.d (.int .i64 a1.InnerPort),.d (.int .i64 a1.Last)]] (.d (.bool r)) []:=by
  refine pureC_x tOk (fn:=Try.f122) (c:=codeOf Try.f122) rfl rfl ?_;unfold spec_l22Less_m at h;(conv=>whnf);refine seq_in tOk ?_;(conv=>whnf);refine andI h (fun _ h=>?_) (fun _ h=>?_)
  · (conv=>whnf);obtain rfl:=Option.some.inj h;exact lfP []
  · (conv=>whnf);refine seq_in tOk ?_;(conv=>whnf);refine andI h (fun _ h=>?_) (fun _ h=>?_)
    · (conv=>whnf);obtain rfl:=Option.some.inj h;exact lfP []
    · (conv=>whnf);refine seq_in tOk ?_;(conv=>whnf);refine andI h (fun _ h=>?_) (fun _ h=>?_)
      · (conv=>whnf);obtain rfl:=Option.some.inj h;exact lfP []
      · (conv=>whnf);obtain rfl:=Option.some.inj h;exact lfP []
noncomputable def spec_l22Flow_m (a0:NatEntry):Option (NatFlow) :=
 some (⟨a0.Kind,a0.Inner,a0.InnerPort,a0.Peer,a0.PeerPort⟩:NatFlow)
theorem spec_l22Flow_c {a0:NatEntry} {r:NatFlow} (h:spec_l22Flow_m a0 = some r):PureC Try.prog 124 [.agg [.d (.int .i64 a0.Kind),.d (.int .i64 a0.Peer),.d (.int .i64 a0.PeerPort),.d (.int .i64 a0.Outer),.d (.int .i64 a0.Inner),.d (.int .i64 a0.InnerPort),.d (.int .i64 a0.Last)]] (.agg [.d (.int .i64 r.Kind),.d (.int .i64 r.From),.d (.int .i64 r.FromPort),.d (.int .i64 r.To),.d (.int .i64 r.ToPort)]) []:=by
  refine pureC_x tOk (fn:=Try.f124) (c:=codeOf Try.f124) rfl rfl ?_;unfold spec_l22Flow_m at h;(conv=>whnf);obtain rfl:=Option.some.inj h;exact lfP []
noncomputable def spec_l22Is_m (a0:NatEntry) (a1:NatFlow):Option (Bool) :=
 some (((((a0.Kind == a1.Kind) && (a0.Inner == a1.From)) && (a0.InnerPort == a1.FromPort)) && (a0.Peer == a1.To)) && (a0.PeerPort == a1.ToPort))
theorem spec_l22Is_c {a0:NatEntry} {a1:NatFlow} {r:Bool} (h:spec_l22Is_m a0 a1 = some r):PureC Try.prog 123 [.agg [.d (.int .i64 a0.Kind),.d (.int .i64 a0.Peer),.d (.int .i64 a0.PeerPort),.d (.int .i64 a0.Outer),.d (.int .i64 a0.Inner),.d (.int .i64 a0.InnerPort),.d (.int .i64 a0.Last)],.agg [.d (.int .i64 a1.Kind),.d (.int .i64 a1.From),.d (.int .i64 a1.FromPort),.d (.int .i64 a1.To),.d (.int .i64 a1.ToPort)]] (.d (.bool r)) []:=by
  refine pureC_x tOk (fn:=Try.f123) (c:=codeOf Try.f123) rfl rfl ?_;unfold spec_l22Is_m at h;(conv=>whnf);obtain rfl:=Option.some.inj h;exact lfP []
noncomputable def spec_l22Live_m (a0:NatBook) (a1:NatEntry):Option (Bool) :=
 some (decide ((IntKind.i64.wrap (a0.Now - a1.Last))<8))
theorem spec_l22Live_c {a0:NatBook} {a1:NatEntry} {r:Bool} (h:spec_l22Live_m a0 a1 = some r):PureC Try.prog 77 [.agg [.d (.int .i64 a0.Addr),.d (.int .i64 a0.Len),.d (.int .i64 a0.Own),.d (.int .i64 a0.Low),.d (.int .i64 a0.High),.d (slD NatDoor.enc a0.Doors),.d (.int .i64 a0.Now),.d (slD NatEntry.enc a0.Entries)],.agg [.d (.int .i64 a1.Kind),.d (.int .i64 a1.Peer),.d (.int .i64 a1.PeerPort),.d (.int .i64 a1.Outer),.d (.int .i64 a1.Inner),.d (.int .i64 a1.InnerPort),.d (.int .i64 a1.Last)]] (.d (.bool r)) []:=by
  refine pureC_x tOk (fn:=Try.f77) (c:=codeOf Try.f77) rfl rfl ?_;unfold spec_l22Live_m at h;(conv=>whnf);obtain rfl:=Option.some.inj h;exact lfP []
noncomputable def spec_l22Entries_m (a0:NatBook):Option (Bool) :=
(if (decide (((a0.Entries.length:Nat):Int) > 16)) = true then
 some false
else
 bd (lp (σ:=Int) (β:=(Unit ⊕ Unit)) (fun s1 =>
(if (decide (s1<((a0.Entries.length:Nat):Int))) = true then
 gd ((0:Int)≤s1∧s1<((a0.Entries.length:Nat):Int)) <|
 bd (spec_l22EntryOk_m a0 (a0.Entries.getD s1.toNat default)) fun x6 =>
 gd ((decide (s1 > 0)) = true → ((!x6) = false → ((0:Int)≤IntKind.i64.wrap (s1 - 1)∧IntKind.i64.wrap (s1 - 1)<((a0.Entries.length:Nat):Int)))) <|
 bd (gcall ((decide (s1 > 0)) = true∧(!x6) = false) (spec_l22Less_m (a0.Entries.getD ((IntKind.i64.wrap (s1 - 1)).toNat) default) (a0.Entries.getD s1.toNat default))) fun x8 =>
(if ((!x6) || ((decide (s1 > 0)) && (!x8))) = true then
 some (.inr (.inl ()))
else
 bd (lp (σ:=Int) (β:=(Unit ⊕ Unit)) (fun s9 =>
(if (decide (s9<s1)) = true then
 gd ((0:Int)≤s9∧s9<((a0.Entries.length:Nat):Int)) <|
 bd (spec_l22Flow_m (a0.Entries.getD s1.toNat default)) fun x14 =>
 bd (spec_l22Is_m (a0.Entries.getD s9.toNat default) x14) fun x15 =>
 bd (gcall (x15 = true) (spec_l22Live_m a0 (a0.Entries.getD s1.toNat default))) fun x16 =>
 gd ((x15 && x16) = true → ((0:Int)≤s9∧s9<((a0.Entries.length:Nat):Int))) <|
 bd (gcall ((x15 && x16) = true) (spec_l22Live_m a0 (a0.Entries.getD s9.toNat default))) fun x18 =>
(if ((x15 && x16) && x18) = true then
 some (.inr (.inl ()))
else
 some (.inl (IntKind.i64.wrap (s9+1))))
else
 some (.inr (.inr ())))) 0) fun x12 =>
(match x12 with
| .inl d19 =>
 some (.inr (.inl ()))
| .inr d20 =>
 some (.inl (IntKind.i64.wrap (s1+1)))))
else
 some (.inr (.inr ())))) 0) fun x4 =>
(match x4 with
| .inl d21 =>
 some false
| .inr d22 =>
 some true))
theorem spec_l22Entries_c {a0:NatBook} {r:Bool} (h:spec_l22Entries_m a0 = some r):PureC Try.prog 70 [.agg [.d (.int .i64 a0.Addr),.d (.int .i64 a0.Len),.d (.int .i64 a0.Own),.d (.int .i64 a0.Low),.d (.int .i64 a0.High),.d (slD NatDoor.enc a0.Doors),.d (.int .i64 a0.Now),.d (slD NatEntry.enc a0.Entries)]] (.d (.bool r)) []:=by
  refine pureC_x tOk (fn:=Try.f70) (c:=codeOf Try.f70) rfl rfl ?_;unfold spec_l22Entries_m at h;(conv=>whnf);refine seq_in tOk ?_;(conv=>whnf);refine andI h (fun _ h=>?_) (fun _ h=>?_)
  · (conv=>whnf);obtain rfl:=Option.some.inj h;exact lfP []
  · (conv=>whnf);refine seq_in tOk ?_;(conv=>whnf);obtain ⟨x4,hx4,h⟩:=bd_some h;refine loop_m tOk hx4 (fun s1=>⟨0,68,[(1,.ref 1 0 0),(3,.d (.int .i64 s1))],[],[(1,.box 56 [.d (.int .i64 a0.Addr),.d (.int .i64 a0.Len),.d (.int .i64 a0.Own),.d (.int .i64 a0.Low),.d (.int .i64 a0.High),.d (slD NatDoor.enc a0.Doors),.d (.int .i64 a0.Now),.d (slD NatEntry.enc a0.Entries)])],[]⟩) ?_ ?_
    · exact leX []
    · clear hx4;intro s1 y2 g3 hy2;(conv=>whnf);refine seq_in tOk ?_;(conv=>whnf);refine andI g3 (fun _ g3=>?_) (fun _ g3=>?_)
      · (conv=>whnf);refine seq_in tOk ?_;(conv=>whnf);refine gdI g3 (fun g3=>?_);(conv=>whnf);refine seq_in tOk ?_;(conv=>whnf);obtain ⟨x6,hx6,g3⟩:=bd_some g3;obtain ⟨g7,g3⟩:=gd_some g3;obtain ⟨x8,hx8,g3⟩:=bd_some g3;refine draw_u tOk [.u 2 0 (.d (.bool x6)) [],.u 15 0 (.d (.bool x8)) []] 19 [] [0,0,3,7,15,31,63,127,255,511,255,1279,4095,8191,255,32767,65535,131071,262143] [] ?_;(conv=>whnf);refine And.intro (callD_any (spec_l22EntryOk_c hx6) (by kernel_rfl)) ?_;(conv=>whnf);refine And.intro g7 ?_;clear g7;(conv=>whnf);refine And.intro (callDG_if rfl rfl rfl rfl (by intro c0 c1; exact spec_l22Less_c (gcall_some hx8 ⟨c0,c1⟩))) ?_;(conv=>whnf);refine And.intro (by kernel_rfl) ?_;(conv=>whnf);refine andI g3 (fun _ g3=>?_) (fun _ g3=>?_)
        · (conv=>whnf);obtain rfl:=Option.some.inj g3;obtain rfl:=hy2 _ rfl;obtain rfl:=Option.some.inj h;exact lfP []
        · (conv=>whnf);obtain ⟨x12,hx12,g3⟩:=bd_some g3;refine loop_m tOk hx12 (fun s9=>⟨0,68,[(1,.ref 1 0 0),(3,.d (.int .i64 s1)),(4,.ref 4 0 0),(5,.d (.int .i64 s9))],[],[(4,.box 65 [.d (.int .i64 ((a0.Entries.getD s1.toNat default).Kind)),.d (.int .i64 ((a0.Entries.getD s1.toNat default).Peer)),.d (.int .i64 ((a0.Entries.getD s1.toNat default).PeerPort)),.d (.int .i64 ((a0.Entries.getD s1.toNat default).Outer)),.d (.int .i64 ((a0.Entries.getD s1.toNat default).Inner)),.d (.int .i64 ((a0.Entries.getD s1.toNat default).InnerPort)),.d (.int .i64 ((a0.Entries.getD s1.toNat default).Last))]),(1,.box 56 [.d (.int .i64 a0.Addr),.d (.int .i64 a0.Len),.d (.int .i64 a0.Own),.d (.int .i64 a0.Low),.d (.int .i64 a0.High),.d (slD NatDoor.enc a0.Doors),.d (.int .i64 a0.Now),.d (slD NatEntry.enc a0.Entries)])],[]⟩) ?_ ?_
          · exact leX []
          · clear hx12;intro s9 y10 g11 hy10;(conv=>whnf);refine seq_in tOk ?_;(conv=>whnf);refine andI g11 (fun _ g11=>?_) (fun _ g11=>?_)
            · (conv=>whnf);refine seq_in tOk ?_;(conv=>whnf);obtain ⟨g13,g11⟩:=gd_some g11;obtain ⟨x14,hx14,g11⟩:=bd_some g11;obtain ⟨x15,hx15,g11⟩:=bd_some g11;obtain ⟨x16,hx16,g11⟩:=bd_some g11;obtain ⟨g17,g11⟩:=gd_some g11;obtain ⟨x18,hx18,g11⟩:=bd_some g11;refine draw_u tOk [.u 6 0 (.agg [.d (.int .i64 x14.Kind),.d (.int .i64 x14.From),.d (.int .i64 x14.FromPort),.d (.int .i64 x14.To),.d (.int .i64 x14.ToPort)]) [],.u 7 0 (.d (.bool x15)) [],.u 11 0 (.d (.bool x16)) [],.u 20 0 (.d (.bool x18)) []] 22 [] [0,1,0,7,15,0,32,127,255,511,511,2047,4095,8191,16383,16383,49151,16383,245759,507903,1048575,2097151] [] ?_;(conv=>whnf);refine And.intro g13 ?_;clear g13;(conv=>whnf);refine And.intro (callD_any (spec_l22Flow_c hx14) (by kernel_rfl)) ?_;(conv=>whnf);refine And.intro (callD_any (spec_l22Is_c hx15) (by kernel_rfl)) ?_;(conv=>whnf);refine And.intro (callDG_if rfl rfl rfl rfl (by intro c0; exact spec_l22Live_c (gcall_some hx16 c0))) ?_;(conv=>whnf);refine And.intro g17 ?_;clear g17;(conv=>whnf);refine And.intro (callDG_if rfl rfl rfl rfl (by intro c0; exact spec_l22Live_c (gcall_some hx18 c0))) ?_;(conv=>whnf);refine And.intro (by kernel_rfl) ?_;(conv=>whnf);refine andI g11 (fun _ g11=>?_) (fun _ g11=>?_)
              · (conv=>whnf);obtain rfl:=Option.some.inj g11;obtain rfl:=hy10 _ rfl;obtain rfl:=Option.some.inj g3;obtain rfl:=hy2 _ rfl;obtain rfl:=Option.some.inj h;exact lfP []
              · (conv=>whnf);obtain rfl:=Option.some.inj g11;exact ⟨_,rfl,leX []⟩
            · (conv=>whnf);obtain rfl:=Option.some.inj g11;obtain rfl:=hy10 _ rfl;obtain rfl:=Option.some.inj g3;exact ⟨_,rfl,leX []⟩
      · (conv=>whnf);obtain rfl:=Option.some.inj g3;obtain rfl:=hy2 _ rfl;obtain rfl:=Option.some.inj h;exact lfP []
noncomputable def spec_NatBookOk_m (a0:NatBook):Option (Bool) :=
 bd (spec_l22Frame_m a0) fun x1 =>
 bd (gcall (x1 = true) (spec_l22Doors_m a0)) fun x2 =>
 bd (gcall ((x1 && x2) = true) (spec_l22Entries_m a0)) fun x3 =>
 some ((x1 && x2) && x3)
theorem spec_NatBookOk_c {a0:NatBook} {r:Bool} (h:spec_NatBookOk_m a0 = some r):PureC Try.prog 27 [.agg [.d (.int .i64 a0.Addr),.d (.int .i64 a0.Len),.d (.int .i64 a0.Own),.d (.int .i64 a0.Low),.d (.int .i64 a0.High),.d (slD NatDoor.enc a0.Doors),.d (.int .i64 a0.Now),.d (slD NatEntry.enc a0.Entries)]] (.d (.bool r)) []:=by
  refine pureC_x tOk (fn:=Try.f27) (c:=codeOf Try.f27) rfl rfl ?_;unfold spec_NatBookOk_m at h;(conv=>whnf);obtain ⟨x1,hx1,h⟩:=bd_some h;refine cC 0 (spec_l22Frame_c hx1) ?_;clear hx1;(conv=>whnf);obtain ⟨x2,hx2,h⟩:=bd_some h;refine cG (fun c0=>spec_l22Doors_c (gcall_some hx2 c0)) ?_;(conv=>whnf);obtain ⟨x3,hx3,h⟩:=bd_some h;refine cG (fun c0=>spec_l22Entries_c (gcall_some hx3 c0)) ?_;(conv=>whnf);obtain rfl:=Option.some.inj h;exact lfP []
noncomputable def spec_l22Copy_m (a0:NatBook):Option (NatBook) :=
 gd (((0)+(a0.Doors.length)) * (32+1)≤70368744177664) <|
 gd (((0)+(a0.Entries.length)) * (56+1)≤70368744177664) <|
 some a0
theorem spec_l22Copy_c {a0:NatBook} {r:NatBook} (h:spec_l22Copy_m a0 = some r):PureC Try.prog 47 [.agg [.d (.int .i64 a0.Addr),.d (.int .i64 a0.Len),.d (.int .i64 a0.Own),.d (.int .i64 a0.Low),.d (.int .i64 a0.High),.d (slD NatDoor.enc a0.Doors),.d (.int .i64 a0.Now),.d (slD NatEntry.enc a0.Entries)]] (.agg [.d (.int .i64 r.Addr),.d (.int .i64 r.Len),.d (.int .i64 r.Own),.d (.int .i64 r.Low),.d (.int .i64 r.High),.osl 5001 0 r.Doors.length,.d (.int .i64 r.Now),.osl 5002 0 r.Entries.length]) [⟨5001,104,4,r.Doors.length,rows NatDoor.enc r.Doors⟩,⟨5002,65,7,r.Entries.length,rows NatEntry.enc r.Entries⟩]:=by
  refine pureC_x tOk (fn:=Try.f47) (c:=codeOf Try.f47) rfl rfl ?_;unfold spec_l22Copy_m at h;(conv=>whnf);refine gdI h (fun h=>?_);refine appN (enc:=NatDoor.enc) (ys:=a0.Doors) ?_;(conv=>whnf);refine gdI h (fun h=>?_);refine appN (enc:=NatEntry.enc) (ys:=a0.Entries) ?_;(conv=>whnf);obtain rfl:=Option.some.inj h;exact lfP [.s [(6,5001),(11,5002),(5001,6),(5002,11)]]
noncomputable def spec_NatTick_m (a0:NatBook):Option (NatBook × Int) :=
 bd (spec_NatBookOk_m a0) fun x1 =>
(if (!x1) = true then
 some ((⟨0,0,0,0,0,[],0,[]⟩:NatBook),1)
else
 bd (spec_l22Copy_m a0) fun x2 =>
(if (a0.Now == 1000000) = true then
 some (x2,2)
else
 bd (lp (σ:=List NatEntry × Int) (β:=(Nat × (List NatEntry))) (fun s3 =>
(if (decide (s3.2<((x2.Entries.length:Nat):Int))) = true then
 gd ((0:Int)≤s3.2∧s3.2<((x2.Entries.length:Nat):Int)) <|
(if (decide ((IntKind.i64.wrap ((IntKind.i64.wrap (a0.Now+1)) - ((x2.Entries.getD s3.2.toNat default).Last)))<12)) = true then
 gd ((0:Int)≤s3.2∧s3.2<((x2.Entries.length:Nat):Int)) <|
 gd (((s3.1.length)+(([(x2.Entries.getD s3.2.toNat default)]:List NatEntry).length)) * (56+1)≤70368744177664) <|
 some (.inl ((s3.1 ++ ([(x2.Entries.getD s3.2.toNat default)]:List NatEntry)),IntKind.i64.wrap (s3.2+1)))
else
 some (.inl (s3.1,IntKind.i64.wrap (s3.2+1))))
else
 some (.inr (s3.1.length,s3.1)))) (([]:List NatEntry),0)) fun x6 =>
 some ({ x2 with Now:=IntKind.i64.wrap (a0.Now+1),Entries:=x6.2 },0)))
theorem spec_NatTick_c {a0:NatBook} {r:NatBook × Int} (h:spec_NatTick_m a0 = some r):PureC Try.prog 18 [.agg [.d (.int .i64 a0.Addr),.d (.int .i64 a0.Len),.d (.int .i64 a0.Own),.d (.int .i64 a0.Low),.d (.int .i64 a0.High),.d (slD NatDoor.enc a0.Doors),.d (.int .i64 a0.Now),.d (slD NatEntry.enc a0.Entries)]] (.tup [.agg [.d (.int .i64 r.1.Addr),.d (.int .i64 r.1.Len),.d (.int .i64 r.1.Own),.d (.int .i64 r.1.Low),.d (.int .i64 r.1.High),.osl 5001 0 r.1.Doors.length,.d (.int .i64 r.1.Now),.osl 5002 0 r.1.Entries.length],.d (.int .i64 r.2)]) [⟨5001,104,4,r.1.Doors.length,rows NatDoor.enc r.1.Doors⟩,⟨5002,65,7,r.1.Entries.length,rows NatEntry.enc r.1.Entries⟩]:=by
  refine pureC_x tOk (fn:=Try.f18) (c:=codeOf Try.f18) rfl rfl ?_;unfold spec_NatTick_m at h;(conv=>whnf);refine seq_in tOk ?_;(conv=>whnf);obtain ⟨x1,hx1,h⟩:=bd_some h;refine cC 0 (spec_NatBookOk_c hx1) ?_;clear hx1;(conv=>whnf);refine andI h (fun _ h=>?_) (fun _ h=>?_)
  · (conv=>whnf);obtain rfl:=Option.some.inj h;exact lfP [.k [1],.p 5001 104 4 (rows NatDoor.enc ([]:List NatDoor)),.p 5002 65 7 (rows NatEntry.enc ([]:List NatEntry))]
  · (conv=>whnf);obtain ⟨x2,hx2,h⟩:=bd_some h;refine cC 1000 (spec_l22Copy_c hx2) ?_;clear hx2;(conv=>whnf);refine seq_in tOk ?_;(conv=>whnf);refine andI h (fun _ h=>?_) (fun _ h=>?_)
    · (conv=>whnf);obtain rfl:=Option.some.inj h;exact lfP [.s [(5001,6001),(5002,6002),(6001,5001),(6002,5002)]]
    · (conv=>whnf);refine seq_in tOk ?_;(conv=>whnf);obtain ⟨x6,hx6,h⟩:=bd_some h;refine loop_m tOk hx6 (fun s3=>⟨0,50,[(2,.ref 2 0 0),(4,.ref 4 0 0),(5,.osl 7001 0 s3.1.length),(6,.d (.int .i64 s3.2))],[],[(7001,.arr 65 7 s3.1.length (rows NatEntry.enc s3.1)),(4,.box 56 [.d (.int .i64 x2.Addr),.d (.int .i64 x2.Len),.d (.int .i64 x2.Own),.d (.int .i64 x2.Low),.d (.int .i64 x2.High),.osl 6001 0 x2.Doors.length,.d (.int .i64 (IntKind.i64.wrap (a0.Now+1))),.osl 6002 0 x2.Entries.length]),(6002,.arr 65 7 x2.Entries.length (rows NatEntry.enc x2.Entries)),(6001,.arr 104 4 x2.Doors.length (rows NatDoor.enc x2.Doors)),(2,.box 56 [.d (.int .i64 0),.d (.int .i64 0),.d (.int .i64 0),.d (.int .i64 0),.d (.int .i64 0),.d (.nil),.d (.int .i64 0),.d (.nil)])],[]⟩) ?_ ?_
      · exact leX [.p 7001 65 7 (rows NatEntry.enc ([]:List NatEntry))]
      · clear hx6;intro s3 y4 g5 hy4;(conv=>whnf);refine seq_in tOk ?_;(conv=>whnf);refine andI g5 (fun _ g5=>?_) (fun _ g5=>?_)
        · (conv=>whnf);refine seq_in tOk ?_;(conv=>whnf);obtain ⟨g7,g5⟩:=gd_some g5;refine draw_u tOk [] 10 [] [0,1,0,4,0,28,60,124,255,511] [] ?_;(conv=>whnf);refine And.intro g7 ?_;clear g7;(conv=>whnf);refine And.intro (by kernel_rfl) ?_;(conv=>whnf);refine andI g5 (fun _ g5=>?_) (fun _ g5=>?_)
          · (conv=>whnf);refine gdI g5 (fun g5=>?_);(conv=>whnf);refine bldS (enc:=NatEntry.enc) ([(x2.Entries.getD s3.2.toNat default)]:List NatEntry) ?_;(conv=>whnf);refine gdI g5 (fun g5=>?_);refine appS (enc:=NatEntry.enc) (xs:=s3.1) (ys:=([(x2.Entries.getD s3.2.toNat default)]:List NatEntry)) ?_;(conv=>whnf);obtain rfl:=Option.some.inj g5;exact ⟨_,rfl,leX []⟩
          · (conv=>whnf);obtain rfl:=Option.some.inj g5;exact ⟨_,rfl,leX []⟩
        · (conv=>whnf);obtain rfl:=Option.some.inj g5;obtain rfl:=hy4 _ rfl;obtain rfl:=Option.some.inj h;exact lfP [.s [(5001,6001),(5002,7001),(6001,5001),(7001,5002)]]
noncomputable def impl_within_m (a0:Int) (a1:Int) (a2:Int):Option (Bool) :=
 some ((decide (a1≤a0)) && (decide (a0≤a2)))
theorem impl_within_c {a0:Int} {a1:Int} {a2:Int} {r:Bool} (h:impl_within_m a0 a1 a2 = some r):PureC Try.prog 93 [.d (.int .i64 a0),.d (.int .i64 a1),.d (.int .i64 a2)] (.d (.bool r)) []:=by
  refine pureC_x tOk (fn:=Try.f93) (c:=codeOf Try.f93) rfl rfl ?_;unfold impl_within_m at h;(conv=>whnf);obtain rfl:=Option.some.inj h;exact lfP []
noncomputable def impl_NetPrefix_size_m (a0:NetPrefix):Option (Int) :=
 gd ((0:Int)≤(IntKind.i64.wrap (16 - a0.Len))) <|
 some (IntKind.i64.wrap (1 * 2 ^ min (IntKind.i64.wrap (16 - a0.Len):Int).toNat IntKind.i64.bits))
theorem impl_NetPrefix_size_c {a0:NetPrefix} {r:Int} (h:impl_NetPrefix_size_m a0 = some r):PureC Try.prog 150 [.agg [.d (.int .i64 a0.Addr),.d (.int .i64 a0.Len)]] (.d (.int .i64 r)) []:=by
  refine pureC_x tOk (fn:=Try.f150) (c:=codeOf Try.f150) rfl rfl ?_;unfold impl_NetPrefix_size_m at h;(conv=>whnf);refine gdI h (fun h=>?_);(conv=>whnf);obtain rfl:=Option.some.inj h;exact lfP []
noncomputable def impl_NetOk_m (a0:NetPrefix):Option (Bool) :=
 bd (impl_within_m a0.Len 0 16) fun x1 =>
 bd (gcall (x1 = true) (impl_within_m a0.Addr 0 65535)) fun x2 =>
 bd (gcall ((x1 && x2) = true) (impl_NetPrefix_size_m a0)) fun x3 =>
 gd ((x1 && x2) = true → ((x3:Int) ≠ 0)) <|
 some ((x1 && x2) && (((a0.Addr:Int).tmod x3) == 0))
theorem impl_NetOk_c {a0:NetPrefix} {r:Bool} (h:impl_NetOk_m a0 = some r):PureC Try.prog 107 [.agg [.d (.int .i64 a0.Addr),.d (.int .i64 a0.Len)]] (.d (.bool r)) []:=by
  refine pureC_x tOk (fn:=Try.f107) (c:=codeOf Try.f107) rfl rfl ?_;unfold impl_NetOk_m at h;(conv=>whnf);obtain ⟨x1,hx1,h⟩:=bd_some h;obtain ⟨x2,hx2,h⟩:=bd_some h;obtain ⟨x3,hx3,h⟩:=bd_some h;obtain ⟨g4,h⟩:=gd_some h;refine draw_u tOk [.u 2 0 (.d (.bool x1)) [],.u 6 0 (.d (.bool x2)) [],.u 12 0 (.d (.int .i64 x3)) []] 17 [] [0,1,3,7,15,31,63,127,255,511,1023,511,2559,8191,16383,32767,65535] [] ?_;(conv=>whnf);refine And.intro (callD_any (impl_within_c hx1) (by kernel_rfl)) ?_;(conv=>whnf);refine And.intro (callDG_if rfl rfl rfl rfl (by intro c0; exact impl_within_c (gcall_some hx2 c0))) ?_;(conv=>whnf);refine And.intro (callDG_if rfl rfl rfl rfl (by intro c0; exact impl_NetPrefix_size_c (gcall_some hx3 c0))) ?_;(conv=>whnf);refine And.intro g4 ?_;clear g4;(conv=>whnf);refine And.intro (by kernel_rfl) ?_;(conv=>whnf);obtain rfl:=Option.some.inj h;exact lfP []
noncomputable def impl_NetPrefix_last_m (a0:NetPrefix):Option (Int) :=
 bd (impl_NetPrefix_size_m a0) fun x1 =>
 some (IntKind.i64.wrap ((IntKind.i64.wrap (a0.Addr+x1)) - 1))
theorem impl_NetPrefix_last_c {a0:NetPrefix} {r:Int} (h:impl_NetPrefix_last_m a0 = some r):PureC Try.prog 156 [.agg [.d (.int .i64 a0.Addr),.d (.int .i64 a0.Len)]] (.d (.int .i64 r)) []:=by
  refine pureC_x tOk (fn:=Try.f156) (c:=codeOf Try.f156) rfl rfl ?_;unfold impl_NetPrefix_last_m at h;(conv=>whnf);obtain ⟨x1,hx1,h⟩:=bd_some h;refine draw_u tOk [.u 3 0 (.d (.int .i64 x1)) []] 7 [] [0,1,0,4,15,31,63] [] ?_;(conv=>whnf);refine And.intro (callD_any (impl_NetPrefix_size_c hx1) (by kernel_rfl)) ?_;(conv=>whnf);refine And.intro (by kernel_rfl) ?_;(conv=>whnf);obtain rfl:=Option.some.inj h;exact lfP []
noncomputable def impl_NetPrefix_has_m (a0:NetPrefix) (a1:Int):Option (Bool) :=
 bd (impl_NetPrefix_last_m a0) fun x1 =>
 bd (impl_within_m a1 a0.Addr x1) fun x2 =>
 some x2
theorem impl_NetPrefix_has_c {a0:NetPrefix} {a1:Int} {r:Bool} (h:impl_NetPrefix_has_m a0 a1 = some r):PureC Try.prog 117 [.agg [.d (.int .i64 a0.Addr),.d (.int .i64 a0.Len)],.d (.int .i64 a1)] (.d (.bool r)) []:=by
  refine pureC_x tOk (fn:=Try.f117) (c:=codeOf Try.f117) rfl rfl ?_;unfold impl_NetPrefix_has_m at h;(conv=>whnf);obtain ⟨x1,hx1,h⟩:=bd_some h;obtain ⟨x2,hx2,h⟩:=bd_some h;refine draw_u tOk [.u 4 0 (.d (.int .i64 x1)) [],.u 5 0 (.d (.bool x2)) []] 7 [] [0,0,2,0,8,31,63] [] ?_;(conv=>whnf);refine And.intro (callD_any (impl_NetPrefix_last_c hx1) (by kernel_rfl)) ?_;(conv=>whnf);refine And.intro (callD_any (impl_within_c hx2) (by kernel_rfl)) ?_;(conv=>whnf);refine And.intro (by kernel_rfl) ?_;(conv=>whnf);obtain rfl:=Option.some.inj h;exact lfP []
noncomputable def impl_NatBook_inside_m (a0:NatBook) (a1:Int):Option (Bool) :=
 bd (impl_NetPrefix_has_m (⟨a0.Addr,a0.Len⟩:NetPrefix) a1) fun x1 =>
 some x1
theorem impl_NatBook_inside_c {a0:NatBook} {a1:Int} {r:Bool} (h:impl_NatBook_inside_m a0 a1 = some r):PureC Try.prog 64 [.agg [.d (.int .i64 a0.Addr),.d (.int .i64 a0.Len),.d (.int .i64 a0.Own),.d (.int .i64 a0.Low),.d (.int .i64 a0.High),.d (slD NatDoor.enc a0.Doors),.d (.int .i64 a0.Now),.d (slD NatEntry.enc a0.Entries)],.d (.int .i64 a1)] (.d (.bool r)) []:=by
  refine pureC_x tOk (fn:=Try.f64) (c:=codeOf Try.f64) rfl rfl ?_;unfold impl_NatBook_inside_m at h;(conv=>whnf);obtain ⟨x1,hx1,h⟩:=bd_some h;refine cC 0 (impl_NetPrefix_has_c hx1) ?_;clear hx1;(conv=>whnf);obtain rfl:=Option.some.inj h;exact lfP []
noncomputable def cmp_isNaN_int_m (a0:Int):Option (Bool) :=
 some (a0 != a0)
theorem cmp_isNaN_int_c {a0:Int} {r:Bool} (h:cmp_isNaN_int_m a0 = some r):PureC Try.prog 167 [.d (.int .i64 a0)] (.d (.bool r)) []:=by
  refine pureC_x tOk (fn:=Try.f167) (c:=codeOf Try.f167) rfl rfl ?_;unfold cmp_isNaN_int_m at h;(conv=>whnf);obtain rfl:=Option.some.inj h;exact lfP []
noncomputable def cmp_Compare_int_m (a0:Int) (a1:Int):Option (Int) :=
 bd (cmp_isNaN_int_m a0) fun x1 =>
 bd (cmp_isNaN_int_m a1) fun x2 =>
(if x1 = true then
(if x2 = true then
 some 0
else
 some (-1))
else
(if x2 = true then
 some 1
else
(if (decide (a0<a1)) = true then
 some (-1)
else
(if (decide (a0 > a1)) = true then
 some 1
else
 some 0))))
theorem cmp_Compare_int_c {a0:Int} {a1:Int} {r:Int} (h:cmp_Compare_int_m a0 a1 = some r):PureC Try.prog 152 [.d (.int .i64 a0),.d (.int .i64 a1)] (.d (.int .i64 r)) []:=by
  refine pureC_x tOk (fn:=Try.f152) (c:=codeOf Try.f152) rfl rfl ?_;unfold cmp_Compare_int_m at h;(conv=>whnf);obtain ⟨x1,hx1,h⟩:=bd_some h;refine cC 0 (cmp_isNaN_int_c hx1) ?_;clear hx1;(conv=>whnf);obtain ⟨x2,hx2,h⟩:=bd_some h;refine cC 0 (cmp_isNaN_int_c hx2) ?_;clear hx2;(conv=>whnf);refine seq_in tOk ?_;(conv=>whnf);refine andI h (fun _ h=>?_) (fun _ h=>?_)
  · (conv=>whnf);refine seq_in tOk ?_;(conv=>whnf);refine andI h (fun _ h=>?_) (fun _ h=>?_)
    · (conv=>whnf);obtain rfl:=Option.some.inj h;exact lfP []
    · (conv=>whnf);obtain rfl:=Option.some.inj h;exact lfP []
  · (conv=>whnf);refine seq_in tOk ?_;(conv=>whnf);refine andI h (fun _ h=>?_) (fun _ h=>?_)
    · (conv=>whnf);obtain rfl:=Option.some.inj h;exact lfP []
    · (conv=>whnf);refine seq_in tOk ?_;(conv=>whnf);refine andI h (fun _ h=>?_) (fun _ h=>?_)
      · (conv=>whnf);obtain rfl:=Option.some.inj h;exact lfP []
      · (conv=>whnf);refine seq_in tOk ?_;(conv=>whnf);refine andI h (fun _ h=>?_) (fun _ h=>?_)
        · (conv=>whnf);obtain rfl:=Option.some.inj h;exact lfP []
        · (conv=>whnf);obtain rfl:=Option.some.inj h;exact lfP []
noncomputable def cmp_Or_int_m (a0:(List Int)):Option (Int) :=
 bd (lp (σ:=Int) (β:=(Int ⊕ Unit)) (fun s1 =>
(if (decide (s1<((a0.length:Nat):Int))) = true then
 gd ((0:Int)≤s1∧s1<((a0.length:Nat):Int)) <|
(if ((a0.getD s1.toNat default) != 0) = true then
 some (.inr (.inl (a0.getD s1.toNat default)))
else
 some (.inl (IntKind.i64.wrap (s1+1))))
else
 some (.inr (.inr ())))) 0) fun x4 =>
(match x4 with
| .inl d6 =>
 some d6
| .inr d7 =>
 some 0)
theorem cmp_Or_int_c {a0:(List Int)} {r:Int} (h:cmp_Or_int_m a0 = some r):PureC Try.prog 151 [.d (slD encInt a0)] (.d (.int .i64 r)) []:=by
  refine pureC_x tOk (fn:=Try.f151) (c:=codeOf Try.f151) rfl rfl ?_;unfold cmp_Or_int_m at h;(conv=>whnf);refine seq_in tOk ?_;(conv=>whnf);obtain ⟨x4,hx4,h⟩:=bd_some h;refine loop_m tOk hx4 (fun s1=>⟨0,18,[(3,.d (.int .i64 0)),(6,.d (slD encInt a0)),(7,.d (.int .i64 ((a0.length:Nat):Int))),(8,.d (.int .i64 s1))],[],[],[]⟩) ?_ ?_
  · exact leX []
  · clear hx4;intro s1 y2 g3 hy2;(conv=>whnf);refine seq_in tOk ?_;(conv=>whnf);refine andI g3 (fun _ g3=>?_) (fun _ g3=>?_)
    · (conv=>whnf);refine seq_in tOk ?_;(conv=>whnf);refine gdI g3 (fun g3=>?_);(conv=>whnf);refine andI g3 (fun _ g3=>?_) (fun _ g3=>?_)
      · (conv=>whnf);obtain rfl:=Option.some.inj g3;obtain rfl:=hy2 _ rfl;obtain rfl:=Option.some.inj h;exact lfP []
      · (conv=>whnf);obtain rfl:=Option.some.inj g3;exact ⟨_,rfl,leX []⟩
    · (conv=>whnf);obtain rfl:=Option.some.inj g3;obtain rfl:=hy2 _ rfl;obtain rfl:=Option.some.inj h;exact lfP []
noncomputable def impl_NatBook_doorsOk_m (a0:NatBook):Option (Bool) :=
 bd (lp (σ:=Int) (β:=(Unit ⊕ Unit)) (fun s1 =>
(if (decide (s1<((a0.Doors.length:Nat):Int))) = true then
 gd ((0:Int)≤s1∧s1<((a0.Doors.length:Nat):Int)) <|
 bd (impl_within_m ((a0.Doors.getD s1.toNat default).Kind) 1 7) fun x6 =>
 bd (gcall ((!x6) = false) (impl_within_m ((a0.Doors.getD s1.toNat default).Outer) 1 65535)) fun x7 =>
 bd (gcall (((!x6) || (!x7)) = false) (impl_within_m ((a0.Doors.getD s1.toNat default).Outer) a0.Low a0.High)) fun x8 =>
 bd (gcall ((((!x6) || (!x7)) || x8) = false) (impl_NatBook_inside_m a0 ((a0.Doors.getD s1.toNat default).Inner))) fun x9 =>
 bd (gcall (((((!x6) || (!x7)) || x8) || (!x9)) = false) (impl_within_m ((a0.Doors.getD s1.toNat default).InnerPort) 1 65535)) fun x10 =>
(if (((((!x6) || (!x7)) || x8) || (!x9)) || (!x10)) = true then
 some (.inr (.inl ()))
else
 gd ((decide (s1 > 0)) = true → ((0:Int)≤IntKind.i64.wrap (s1 - 1)∧IntKind.i64.wrap (s1 - 1)<((a0.Doors.length:Nat):Int))) <|
 bd (gcall ((decide (s1 > 0)) = true) (cmp_Compare_int_m ((a0.Doors.getD ((IntKind.i64.wrap (s1 - 1)).toNat) default).Kind) ((a0.Doors.getD s1.toNat default).Kind))) fun x12 =>
 gd ((decide (s1 > 0)) = true → ((0:Int)≤IntKind.i64.wrap (s1 - 1)∧IntKind.i64.wrap (s1 - 1)<((a0.Doors.length:Nat):Int))) <|
 bd (gcall ((decide (s1 > 0)) = true) (cmp_Compare_int_m ((a0.Doors.getD ((IntKind.i64.wrap (s1 - 1)).toNat) default).Outer) ((a0.Doors.getD s1.toNat default).Outer))) fun x14 =>
 bd (gcall ((decide (s1 > 0)) = true) (cmp_Or_int_m ([x12,x14]:List Int))) fun x15 =>
(if ((decide (s1 > 0)) && (decide (x15 ≥ 0))) = true then
 some (.inr (.inl ()))
else
 gd ((0:Int)≤(0:Int)∧(0:Int)≤s1∧s1≤((a0.Doors.length:Nat):Int)) <|
 bd (lp (σ:=Int) (β:=(Unit ⊕ Unit)) (fun s17 =>
(if (decide (s17<((s1.toNat:Nat):Int))) = true then
 gd ((0:Int)≤s17∧s17<((s1.toNat:Nat):Int)) <|
(if (((((a0.Doors.getD s17.toNat default).Kind) == ((a0.Doors.getD s1.toNat default).Kind)) && (((a0.Doors.getD s17.toNat default).Inner) == ((a0.Doors.getD s1.toNat default).Inner))) && (((a0.Doors.getD s17.toNat default).InnerPort) == ((a0.Doors.getD s1.toNat default).InnerPort))) = true then
 some (.inr (.inl ()))
else
 some (.inl (IntKind.i64.wrap (s17+1))))
else
 some (.inr (.inr ())))) 0) fun x20 =>
(match x20 with
| .inl d22 =>
 some (.inr (.inl ()))
| .inr d23 =>
 some (.inl (IntKind.i64.wrap (s1+1))))))
else
 some (.inr (.inr ())))) 0) fun x4 =>
(match x4 with
| .inl d24 =>
 some false
| .inr d25 =>
 some (decide (((a0.Doors.length:Nat):Int)≤6)))
theorem impl_NatBook_doorsOk_c {a0:NatBook} {r:Bool} (h:impl_NatBook_doorsOk_m a0 = some r):PureC Try.prog 108 [.agg [.d (.int .i64 a0.Addr),.d (.int .i64 a0.Len),.d (.int .i64 a0.Own),.d (.int .i64 a0.Low),.d (.int .i64 a0.High),.d (slD NatDoor.enc a0.Doors),.d (.int .i64 a0.Now),.d (slD NatEntry.enc a0.Entries)]] (.d (.bool r)) []:=by
  refine pureC_x tOk (fn:=Try.f108) (c:=codeOf Try.f108) rfl rfl ?_;unfold impl_NatBook_doorsOk_m at h;(conv=>whnf);refine seq_in tOk ?_;(conv=>whnf);obtain ⟨x4,hx4,h⟩:=bd_some h;refine loop_m tOk hx4 (fun s1=>⟨0,108,[(1,.ref 1 0 0),(8,.d (slD NatDoor.enc a0.Doors)),(9,.d (.int .i64 ((a0.Doors.length:Nat):Int))),(10,.d (.int .i64 s1))],[],[(1,.box 56 [.d (.int .i64 a0.Addr),.d (.int .i64 a0.Len),.d (.int .i64 a0.Own),.d (.int .i64 a0.Low),.d (.int .i64 a0.High),.d (slD NatDoor.enc a0.Doors),.d (.int .i64 a0.Now),.d (slD NatEntry.enc a0.Entries)])],[]⟩) ?_ ?_
  · exact leX []
  · clear hx4;intro s1 y2 g3 hy2;(conv=>whnf);refine seq_in tOk ?_;(conv=>whnf);refine andI g3 (fun _ g3=>?_) (fun _ g3=>?_)
    · (conv=>whnf);refine seq_in tOk ?_;(conv=>whnf);refine gdI g3 (fun g3=>?_);(conv=>whnf);refine seq_in tOk ?_;(conv=>whnf);obtain ⟨x6,hx6,g3⟩:=bd_some g3;refine cC 0 (impl_within_c hx6) ?_;clear hx6;(conv=>whnf);obtain ⟨x7,hx7,g3⟩:=bd_some g3;refine cG (fun c0=>impl_within_c (gcall_some hx7 c0)) ?_;(conv=>whnf);obtain ⟨x8,hx8,g3⟩:=bd_some g3;refine cG (fun c0=>impl_within_c (gcall_some hx8 c0)) ?_;(conv=>whnf);obtain ⟨x9,hx9,g3⟩:=bd_some g3;refine cG (fun c0=>impl_NatBook_inside_c (gcall_some hx9 c0)) ?_;(conv=>whnf);obtain ⟨x10,hx10,g3⟩:=bd_some g3;refine cG (fun c0=>impl_within_c (gcall_some hx10 c0)) ?_;(conv=>whnf);refine andI g3 (fun _ g3=>?_) (fun _ g3=>?_)
      · (conv=>whnf);obtain rfl:=Option.some.inj g3;obtain rfl:=hy2 _ rfl;obtain rfl:=Option.some.inj h;exact lfP []
      · (conv=>whnf);refine seq_in tOk ?_;(conv=>whnf);obtain ⟨g11,g3⟩:=gd_some g3;obtain ⟨x12,hx12,g3⟩:=bd_some g3;obtain ⟨g13,g3⟩:=gd_some g3;obtain ⟨x14,hx14,g3⟩:=bd_some g3;obtain ⟨x15,hx15,g3⟩:=bd_some g3;refine draw_u tOk [.u 12 0 (.d (.int .i64 x12)) [],.u 22 0 (.d (.int .i64 x14)) [],.u 24 0 (.d (.int .i64 x15)) []] 27 [] [0,1,3,7,15,7,39,127,255,511,7,1031,4095,7,8199,7,32775,122887,253959,516103,7,1048583,4194303,8388607,16777215,33554431,67108863] [] ?_;(conv=>whnf);refine And.intro g11 ?_;clear g11;(conv=>whnf);refine And.intro (callDG_if rfl rfl rfl rfl (by intro c0; exact cmp_Compare_int_c (gcall_some hx12 c0))) ?_;(conv=>whnf);refine And.intro g13 ?_;clear g13;(conv=>whnf);refine And.intro (callDG_if rfl rfl rfl rfl (by intro c0; exact cmp_Compare_int_c (gcall_some hx14 c0))) ?_;(conv=>whnf);refine And.intro (callDG_if rfl rfl rfl rfl (by intro c0;  exact (cmp_Or_int_c (gcall_some hx15 c0)).le argA)) ?_;(conv=>whnf);refine And.intro (by kernel_rfl) ?_;(conv=>whnf);refine andI g3 (fun _ g3=>?_) (fun _ g3=>?_)
        · (conv=>whnf);obtain rfl:=Option.some.inj g3;obtain rfl:=hy2 _ rfl;obtain rfl:=Option.some.inj h;exact lfP []
        · (conv=>whnf);obtain ⟨g16,g3⟩:=gd_some g3;refine And.intro ⟨g16,.inr rfl⟩ ?_;(conv=>whnf);obtain ⟨x20,hx20,g3⟩:=bd_some g3;refine loop_m tOk hx20 (fun s17=>⟨0,108,[(1,.ref 1 0 0),(4,.ref 4 0 0),(8,.d (slD NatDoor.enc a0.Doors)),(9,.d (.int .i64 ((a0.Doors.length:Nat):Int))),(10,.d (.int .i64 s1)),(77,.d (.sl s1.toNat (rows NatDoor.enc a0.Doors))),(78,.d (.int .i64 ((s1.toNat:Nat):Int))),(79,.d (.int .i64 s17))],[],[(4,.box 104 [.d (.int .i64 ((a0.Doors.getD s1.toNat default).Kind)),.d (.int .i64 ((a0.Doors.getD s1.toNat default).Outer)),.d (.int .i64 ((a0.Doors.getD s1.toNat default).Inner)),.d (.int .i64 ((a0.Doors.getD s1.toNat default).InnerPort))]),(1,.box 56 [.d (.int .i64 a0.Addr),.d (.int .i64 a0.Len),.d (.int .i64 a0.Own),.d (.int .i64 a0.Low),.d (.int .i64 a0.High),.d (slD NatDoor.enc a0.Doors),.d (.int .i64 a0.Now),.d (slD NatEntry.enc a0.Entries)])],[]⟩) ?_ ?_
          · exact leX []
          · clear hx20;intro s17 y18 g19 hy18;(conv=>whnf);refine seq_in tOk ?_;(conv=>whnf);refine andI g19 (fun _ g19=>?_) (fun _ g19=>?_)
            · (conv=>whnf);refine seq_in tOk ?_;(conv=>whnf);refine gdI g19 (fun g19=>?_);(conv=>whnf);refine andI g19 (fun _ g19=>?_) (fun _ g19=>?_)
              · (conv=>whnf);obtain rfl:=Option.some.inj g19;obtain rfl:=hy18 _ rfl;obtain rfl:=Option.some.inj g3;obtain rfl:=hy2 _ rfl;obtain rfl:=Option.some.inj h;exact lfP []
              · (conv=>whnf);obtain rfl:=Option.some.inj g19;exact ⟨_,rfl,leX []⟩
            · (conv=>whnf);obtain rfl:=Option.some.inj g19;obtain rfl:=hy18 _ rfl;obtain rfl:=Option.some.inj g3;exact ⟨_,rfl,leX []⟩
    · (conv=>whnf);obtain rfl:=Option.some.inj g3;obtain rfl:=hy2 _ rfl;obtain rfl:=Option.some.inj h;exact lfP []
noncomputable def impl_NatEntry_flow_m (a0:NatEntry):Option (NatFlow) :=
 some (⟨a0.Kind,a0.Inner,a0.InnerPort,a0.Peer,a0.PeerPort⟩:NatFlow)
theorem impl_NatEntry_flow_c {a0:NatEntry} {r:NatFlow} (h:impl_NatEntry_flow_m a0 = some r):PureC Try.prog 67 [.agg [.d (.int .i64 a0.Kind),.d (.int .i64 a0.Peer),.d (.int .i64 a0.PeerPort),.d (.int .i64 a0.Outer),.d (.int .i64 a0.Inner),.d (.int .i64 a0.InnerPort),.d (.int .i64 a0.Last)]] (.agg [.d (.int .i64 r.Kind),.d (.int .i64 r.From),.d (.int .i64 r.FromPort),.d (.int .i64 r.To),.d (.int .i64 r.ToPort)]) []:=by
  refine pureC_x tOk (fn:=Try.f67) (c:=codeOf Try.f67) rfl rfl ?_;unfold impl_NatEntry_flow_m at h;(conv=>whnf);obtain rfl:=Option.some.inj h;exact lfP []
noncomputable def impl_NatFlowOk_m (a0:NatFlow):Option (Bool) :=
 bd (impl_within_m a0.Kind 1 7) fun x1 =>
 bd (gcall (x1 = true) (impl_within_m a0.From 0 65535)) fun x2 =>
 bd (gcall ((x1 && x2) = true) (impl_within_m a0.To 0 65535)) fun x3 =>
 bd (gcall (((x1 && x2) && x3) = true) (impl_within_m a0.FromPort 1 65535)) fun x4 =>
 bd (gcall ((((x1 && x2) && x3) && x4) = true) (impl_within_m a0.ToPort 1 65535)) fun x5 =>
 some ((((x1 && x2) && x3) && x4) && x5)
theorem impl_NatFlowOk_c {a0:NatFlow} {r:Bool} (h:impl_NatFlowOk_m a0 = some r):PureC Try.prog 63 [.agg [.d (.int .i64 a0.Kind),.d (.int .i64 a0.From),.d (.int .i64 a0.FromPort),.d (.int .i64 a0.To),.d (.int .i64 a0.ToPort)]] (.d (.bool r)) []:=by
  refine pureC_x tOk (fn:=Try.f63) (c:=codeOf Try.f63) rfl rfl ?_;unfold impl_NatFlowOk_m at h;(conv=>whnf);obtain ⟨x1,hx1,h⟩:=bd_some h;refine cC 0 (impl_within_c hx1) ?_;clear hx1;(conv=>whnf);obtain ⟨x2,hx2,h⟩:=bd_some h;refine cG (fun c0=>impl_within_c (gcall_some hx2 c0)) ?_;(conv=>whnf);obtain ⟨x3,hx3,h⟩:=bd_some h;refine cG (fun c0=>impl_within_c (gcall_some hx3 c0)) ?_;(conv=>whnf);obtain ⟨x4,hx4,h⟩:=bd_some h;refine cG (fun c0=>impl_within_c (gcall_some hx4 c0)) ?_;(conv=>whnf);obtain ⟨x5,hx5,h⟩:=bd_some h;refine cG (fun c0=>impl_within_c (gcall_some hx5 c0)) ?_;(conv=>whnf);obtain rfl:=Option.some.inj h;exact lfP []
noncomputable def impl_NatBook_age_m (a0:NatBook) (a1:NatEntry):Option (Int) :=
 some (IntKind.i64.wrap (a0.Now - a1.Last))
theorem impl_NatBook_age_c {a0:NatBook} {a1:NatEntry} {r:Int} (h:impl_NatBook_age_m a0 a1 = some r):PureC Try.prog 54 [.agg [.d (.int .i64 a0.Addr),.d (.int .i64 a0.Len),.d (.int .i64 a0.Own),.d (.int .i64 a0.Low),.d (.int .i64 a0.High),.d (slD NatDoor.enc a0.Doors),.d (.int .i64 a0.Now),.d (slD NatEntry.enc a0.Entries)],.agg [.d (.int .i64 a1.Kind),.d (.int .i64 a1.Peer),.d (.int .i64 a1.PeerPort),.d (.int .i64 a1.Outer),.d (.int .i64 a1.Inner),.d (.int .i64 a1.InnerPort),.d (.int .i64 a1.Last)]] (.d (.int .i64 r)) []:=by
  refine pureC_x tOk (fn:=Try.f54) (c:=codeOf Try.f54) rfl rfl ?_;unfold impl_NatBook_age_m at h;(conv=>whnf);obtain rfl:=Option.some.inj h;exact lfP []
noncomputable def impl_NatBook_entryOk_m (a0:NatBook) (a1:NatEntry):Option (Bool) :=
 bd (impl_NatEntry_flow_m a1) fun x1 =>
 bd (impl_NatFlowOk_m x1) fun x2 =>
 bd (gcall (x2 = true) (impl_within_m a1.Outer a0.Low a0.High)) fun x3 =>
 bd (gcall ((x2 && x3) = true) (impl_NatBook_inside_m a0 a1.Inner)) fun x4 =>
 bd (gcall (((x2 && x3) && x4) = true) (impl_NatBook_inside_m a0 a1.Peer)) fun x5 =>
 bd (gcall (((((x2 && x3) && x4) && (!x5)) && (a1.Peer != a0.Own)) = true) (impl_within_m a1.Last 0 a0.Now)) fun x6 =>
 bd (gcall ((((((x2 && x3) && x4) && (!x5)) && (a1.Peer != a0.Own)) && x6) = true) (impl_NatBook_age_m a0 a1)) fun x7 =>
 some ((((((x2 && x3) && x4) && (!x5)) && (a1.Peer != a0.Own)) && x6) && (decide (x7<12)))
theorem impl_NatBook_entryOk_c {a0:NatBook} {a1:NatEntry} {r:Bool} (h:impl_NatBook_entryOk_m a0 a1 = some r):PureC Try.prog 153 [.agg [.d (.int .i64 a0.Addr),.d (.int .i64 a0.Len),.d (.int .i64 a0.Own),.d (.int .i64 a0.Low),.d (.int .i64 a0.High),.d (slD NatDoor.enc a0.Doors),.d (.int .i64 a0.Now),.d (slD NatEntry.enc a0.Entries)],.agg [.d (.int .i64 a1.Kind),.d (.int .i64 a1.Peer),.d (.int .i64 a1.PeerPort),.d (.int .i64 a1.Outer),.d (.int .i64 a1.Inner),.d (.int .i64 a1.InnerPort),.d (.int .i64 a1.Last)]] (.d (.bool r)) []:=by
  refine pureC_x tOk (fn:=Try.f153) (c:=codeOf Try.f153) rfl rfl ?_;unfold impl_NatBook_entryOk_m at h;(conv=>whnf);obtain ⟨x1,hx1,h⟩:=bd_some h;refine cC 0 (impl_NatEntry_flow_c hx1) ?_;clear hx1;(conv=>whnf);obtain ⟨x2,hx2,h⟩:=bd_some h;refine cC 0 (impl_NatFlowOk_c hx2) ?_;clear hx2;(conv=>whnf);obtain ⟨x3,hx3,h⟩:=bd_some h;refine cG (fun c0=>impl_within_c (gcall_some hx3 c0)) ?_;(conv=>whnf);obtain ⟨x4,hx4,h⟩:=bd_some h;refine cG (fun c0=>impl_NatBook_inside_c (gcall_some hx4 c0)) ?_;(conv=>whnf);obtain ⟨x5,hx5,h⟩:=bd_some h;refine cG (fun c0=>impl_NatBook_inside_c (gcall_some hx5 c0)) ?_;(conv=>whnf);obtain ⟨x6,hx6,h⟩:=bd_some h;refine cG (fun c0=>impl_within_c (gcall_some hx6 c0)) ?_;(conv=>whnf);obtain ⟨x7,hx7,h⟩:=bd_some h;refine cG (fun c0=>impl_NatBook_age_c (gcall_some hx7 c0)) ?_;(conv=>whnf);obtain rfl:=Option.some.inj h;exact lfP []
noncomputable def impl_NatEntry_compare_m (a0:NatEntry) (a1:NatEntry):Option (Int) :=
 bd (cmp_Compare_int_m a0.Kind a1.Kind) fun x1 =>
 bd (cmp_Compare_int_m a0.Peer a1.Peer) fun x2 =>
 bd (cmp_Compare_int_m a0.PeerPort a1.PeerPort) fun x3 =>
 bd (cmp_Compare_int_m a0.Outer a1.Outer) fun x4 =>
 bd (cmp_Or_int_m ([x1,x2,x3,x4]:List Int)) fun x5 =>
 some x5
theorem impl_NatEntry_compare_c {a0:NatEntry} {a1:NatEntry} {r:Int} (h:impl_NatEntry_compare_m a0 a1 = some r):PureC Try.prog 129 [.agg [.d (.int .i64 a0.Kind),.d (.int .i64 a0.Peer),.d (.int .i64 a0.PeerPort),.d (.int .i64 a0.Outer),.d (.int .i64 a0.Inner),.d (.int .i64 a0.InnerPort),.d (.int .i64 a0.Last)],.agg [.d (.int .i64 a1.Kind),.d (.int .i64 a1.Peer),.d (.int .i64 a1.PeerPort),.d (.int .i64 a1.Outer),.d (.int .i64 a1.Inner),.d (.int .i64 a1.InnerPort),.d (.int .i64 a1.Last)]] (.d (.int .i64 r)) []:=by
  refine pureC_x tOk (fn:=Try.f129) (c:=codeOf Try.f129) rfl rfl ?_;unfold impl_NatEntry_compare_m at h;(conv=>whnf);obtain ⟨x1,hx1,h⟩:=bd_some h;obtain ⟨x2,hx2,h⟩:=bd_some h;obtain ⟨x3,hx3,h⟩:=bd_some h;obtain ⟨x4,hx4,h⟩:=bd_some h;obtain ⟨x5,hx5,h⟩:=bd_some h;refine draw_u tOk [.u 4 0 (.d (.int .i64 x1)) [],.u 9 0 (.d (.int .i64 x2)) [],.u 14 0 (.d (.int .i64 x3)) [],.u 19 0 (.d (.int .i64 x4)) [],.u 21 0 (.d (.int .i64 x5)) []] 23 [] [0,1,0,4,15,0,32,0,128,511,0,1024,0,4096,16383,0,32768,0,131072,524287,1048575,2097151,4194303] [] ?_;(conv=>whnf);refine And.intro (callD_any (cmp_Compare_int_c hx1) (by kernel_rfl)) ?_;(conv=>whnf);refine And.intro (callD_any (cmp_Compare_int_c hx2) (by kernel_rfl)) ?_;(conv=>whnf);refine And.intro (callD_any (cmp_Compare_int_c hx3) (by kernel_rfl)) ?_;(conv=>whnf);refine And.intro (callD_any (cmp_Compare_int_c hx4) (by kernel_rfl)) ?_;(conv=>whnf);refine bldS (enc:=encInt) ([x1,x2,x3,x4]:List Int) ?_;(conv=>whnf);refine And.intro (callD_any (cmp_Or_int_c hx5) (by kernel_rfl)) ?_;(conv=>whnf);refine And.intro (by kernel_rfl) ?_;(conv=>whnf);obtain rfl:=Option.some.inj h;exact lfP []
noncomputable def impl_NatBook_lives_m (a0:NatBook) (a1:NatEntry):Option (Bool) :=
 bd (impl_NatBook_age_m a0 a1) fun x1 =>
 some (decide (x1<8))
theorem impl_NatBook_lives_c {a0:NatBook} {a1:NatEntry} {r:Bool} (h:impl_NatBook_lives_m a0 a1 = some r):PureC Try.prog 65 [.agg [.d (.int .i64 a0.Addr),.d (.int .i64 a0.Len),.d (.int .i64 a0.Own),.d (.int .i64 a0.Low),.d (.int .i64 a0.High),.d (slD NatDoor.enc a0.Doors),.d (.int .i64 a0.Now),.d (slD NatEntry.enc a0.Entries)],.agg [.d (.int .i64 a1.Kind),.d (.int .i64 a1.Peer),.d (.int .i64 a1.PeerPort),.d (.int .i64 a1.Outer),.d (.int .i64 a1.Inner),.d (.int .i64 a1.InnerPort),.d (.int .i64 a1.Last)]] (.d (.bool r)) []:=by
  refine pureC_x tOk (fn:=Try.f65) (c:=codeOf Try.f65) rfl rfl ?_;unfold impl_NatBook_lives_m at h;(conv=>whnf);obtain ⟨x1,hx1,h⟩:=bd_some h;refine cC 0 (impl_NatBook_age_c hx1) ?_;clear hx1;(conv=>whnf);obtain rfl:=Option.some.inj h;exact lfP []
noncomputable def impl_NatBook_entriesOk_m (a0:NatBook):Option (Bool) :=
 bd (lp (σ:=Int) (β:=(Unit ⊕ Unit)) (fun s1 =>
(if (decide (s1<((a0.Entries.length:Nat):Int))) = true then
 gd ((0:Int)≤s1∧s1<((a0.Entries.length:Nat):Int)) <|
 bd (impl_NatBook_entryOk_m a0 (a0.Entries.getD s1.toNat default)) fun x6 =>
 gd ((decide (s1 > 0)) = true → ((!x6) = false → ((0:Int)≤IntKind.i64.wrap (s1 - 1)∧IntKind.i64.wrap (s1 - 1)<((a0.Entries.length:Nat):Int)))) <|
 bd (gcall ((decide (s1 > 0)) = true∧(!x6) = false) (impl_NatEntry_compare_m (a0.Entries.getD ((IntKind.i64.wrap (s1 - 1)).toNat) default) (a0.Entries.getD s1.toNat default))) fun x8 =>
(if ((!x6) || ((decide (s1 > 0)) && (decide (x8 ≥ 0)))) = true then
 some (.inr (.inl ()))
else
 gd ((0:Int)≤(0:Int)∧(0:Int)≤s1∧s1≤((a0.Entries.length:Nat):Int)) <|
 bd (lp (σ:=Int) (β:=(Unit ⊕ Unit)) (fun s10 =>
(if (decide (s10<((s1.toNat:Nat):Int))) = true then
 gd ((0:Int)≤s10∧s10<((s1.toNat:Nat):Int)) <|
 bd (impl_NatBook_lives_m a0 (a0.Entries.getD s1.toNat default)) fun x15 =>
 bd (gcall (x15 = true) (impl_NatBook_lives_m a0 (a0.Entries.getD s10.toNat default))) fun x16 =>
 bd (gcall ((x15 && x16) = true) (impl_NatEntry_flow_m (a0.Entries.getD s1.toNat default))) fun x17 =>
 bd (gcall ((x15 && x16) = true) (impl_NatEntry_flow_m (a0.Entries.getD s10.toNat default))) fun x18 =>
(if ((x15 && x16) && ((x17.Kind == x18.Kind) && ((x17.From == x18.From) && ((x17.FromPort == x18.FromPort) && ((x17.To == x18.To) && ((x17.ToPort == x18.ToPort) && true)))))) = true then
 some (.inr (.inl ()))
else
 some (.inl (IntKind.i64.wrap (s10+1))))
else
 some (.inr (.inr ())))) 0) fun x13 =>
(match x13 with
| .inl d19 =>
 some (.inr (.inl ()))
| .inr d20 =>
 some (.inl (IntKind.i64.wrap (s1+1)))))
else
 some (.inr (.inr ())))) 0) fun x4 =>
(match x4 with
| .inl d21 =>
 some false
| .inr d22 =>
 some (decide (((a0.Entries.length:Nat):Int)≤16)))
theorem impl_NatBook_entriesOk_c {a0:NatBook} {r:Bool} (h:impl_NatBook_entriesOk_m a0 = some r):PureC Try.prog 109 [.agg [.d (.int .i64 a0.Addr),.d (.int .i64 a0.Len),.d (.int .i64 a0.Own),.d (.int .i64 a0.Low),.d (.int .i64 a0.High),.d (slD NatDoor.enc a0.Doors),.d (.int .i64 a0.Now),.d (slD NatEntry.enc a0.Entries)]] (.d (.bool r)) []:=by
  refine pureC_x tOk (fn:=Try.f109) (c:=codeOf Try.f109) rfl rfl ?_;unfold impl_NatBook_entriesOk_m at h;(conv=>whnf);refine seq_in tOk ?_;(conv=>whnf);obtain ⟨x4,hx4,h⟩:=bd_some h;refine loop_m tOk hx4 (fun s1=>⟨0,64,[(1,.ref 1 0 0),(8,.d (slD NatEntry.enc a0.Entries)),(9,.d (.int .i64 ((a0.Entries.length:Nat):Int))),(10,.d (.int .i64 s1))],[],[(1,.box 56 [.d (.int .i64 a0.Addr),.d (.int .i64 a0.Len),.d (.int .i64 a0.Own),.d (.int .i64 a0.Low),.d (.int .i64 a0.High),.d (slD NatDoor.enc a0.Doors),.d (.int .i64 a0.Now),.d (slD NatEntry.enc a0.Entries)])],[]⟩) ?_ ?_
  · exact leX []
  · clear hx4;intro s1 y2 g3 hy2;(conv=>whnf);refine seq_in tOk ?_;(conv=>whnf);refine andI g3 (fun _ g3=>?_) (fun _ g3=>?_)
    · (conv=>whnf);refine seq_in tOk ?_;(conv=>whnf);refine gdI g3 (fun g3=>?_);(conv=>whnf);refine seq_in tOk ?_;(conv=>whnf);obtain ⟨x6,hx6,g3⟩:=bd_some g3;obtain ⟨g7,g3⟩:=gd_some g3;obtain ⟨x8,hx8,g3⟩:=bd_some g3;refine draw_u tOk [.u 2 0 (.d (.bool x6)) [],.u 15 0 (.d (.int .i64 x8)) []] 19 [] [0,0,3,7,15,31,63,127,255,511,255,1279,4095,8191,255,32767,65535,131071,262143] [] ?_;(conv=>whnf);refine And.intro (callD_any (impl_NatBook_entryOk_c hx6) (by kernel_rfl)) ?_;(conv=>whnf);refine And.intro g7 ?_;clear g7;(conv=>whnf);refine And.intro (callDG_if rfl rfl rfl rfl (by intro c0 c1; exact impl_NatEntry_compare_c (gcall_some hx8 ⟨c0,c1⟩))) ?_;(conv=>whnf);refine And.intro (by kernel_rfl) ?_;(conv=>whnf);refine andI g3 (fun _ g3=>?_) (fun _ g3=>?_)
      · (conv=>whnf);obtain rfl:=Option.some.inj g3;obtain rfl:=hy2 _ rfl;obtain rfl:=Option.some.inj h;exact lfP []
      · (conv=>whnf);obtain ⟨g9,g3⟩:=gd_some g3;refine And.intro ⟨g9,.inr rfl⟩ ?_;(conv=>whnf);obtain ⟨x13,hx13,g3⟩:=bd_some g3;refine loop_m tOk hx13 (fun s10=>⟨0,64,[(1,.ref 1 0 0),(4,.ref 4 0 0),(8,.d (slD NatEntry.enc a0.Entries)),(9,.d (.int .i64 ((a0.Entries.length:Nat):Int))),(10,.d (.int .i64 s1)),(37,.d (.sl s1.toNat (rows NatEntry.enc a0.Entries))),(38,.d (.int .i64 ((s1.toNat:Nat):Int))),(39,.d (.int .i64 s10))],[],[(4,.box 65 [.d (.int .i64 ((a0.Entries.getD s1.toNat default).Kind)),.d (.int .i64 ((a0.Entries.getD s1.toNat default).Peer)),.d (.int .i64 ((a0.Entries.getD s1.toNat default).PeerPort)),.d (.int .i64 ((a0.Entries.getD s1.toNat default).Outer)),.d (.int .i64 ((a0.Entries.getD s1.toNat default).Inner)),.d (.int .i64 ((a0.Entries.getD s1.toNat default).InnerPort)),.d (.int .i64 ((a0.Entries.getD s1.toNat default).Last))]),(1,.box 56 [.d (.int .i64 a0.Addr),.d (.int .i64 a0.Len),.d (.int .i64 a0.Own),.d (.int .i64 a0.Low),.d (.int .i64 a0.High),.d (slD NatDoor.enc a0.Doors),.d (.int .i64 a0.Now),.d (slD NatEntry.enc a0.Entries)])],[]⟩) ?_ ?_
        · exact leX []
        · clear hx13;intro s10 y11 g12 hy11;(conv=>whnf);refine seq_in tOk ?_;(conv=>whnf);refine andI g12 (fun _ g12=>?_) (fun _ g12=>?_)
          · (conv=>whnf);refine seq_in tOk ?_;(conv=>whnf);refine gdI g12 (fun g12=>?_);(conv=>whnf);obtain ⟨x15,hx15,g12⟩:=bd_some g12;obtain ⟨x16,hx16,g12⟩:=bd_some g12;obtain ⟨x17,hx17,g12⟩:=bd_some g12;obtain ⟨x18,hx18,g12⟩:=bd_some g12;refine draw_u tOk [.u 2 0 (.d (.bool x15)) [],.u 6 0 (.d (.bool x16)) [],.u 10 0 (.agg [.d (.int .i64 x17.Kind),.d (.int .i64 x17.From),.d (.int .i64 x17.FromPort),.d (.int .i64 x17.To),.d (.int .i64 x17.ToPort)]) [],.u 12 0 (.agg [.d (.int .i64 x18.Kind),.d (.int .i64 x18.From),.d (.int .i64 x18.FromPort),.d (.int .i64 x18.To),.d (.int .i64 x18.ToPort)]) []] 15 [] [0,0,3,7,15,15,63,127,255,511,1023,511,4095,8191,16383] [] ?_;(conv=>whnf);refine And.intro (callD_any (impl_NatBook_lives_c hx15) (by kernel_rfl)) ?_;(conv=>whnf);refine And.intro (callDG_if rfl rfl rfl rfl (by intro c0; exact impl_NatBook_lives_c (gcall_some hx16 c0))) ?_;(conv=>whnf);refine And.intro (callDG_if rfl rfl rfl rfl (by intro c0; exact impl_NatEntry_flow_c (gcall_some hx17 c0))) ?_;(conv=>whnf);refine And.intro (callDG_if rfl rfl rfl rfl (by intro c0; exact impl_NatEntry_flow_c (gcall_some hx18 c0))) ?_;(conv=>whnf);refine And.intro (by kernel_rfl) ?_;(conv=>whnf);refine andI g12 (fun _ g12=>?_) (fun _ g12=>?_)
            · (conv=>whnf);obtain rfl:=Option.some.inj g12;obtain rfl:=hy11 _ rfl;obtain rfl:=Option.some.inj g3;obtain rfl:=hy2 _ rfl;obtain rfl:=Option.some.inj h;exact lfP []
            · (conv=>whnf);obtain rfl:=Option.some.inj g12;exact ⟨_,rfl,leX []⟩
          · (conv=>whnf);obtain rfl:=Option.some.inj g12;obtain rfl:=hy11 _ rfl;obtain rfl:=Option.some.inj g3;exact ⟨_,rfl,leX []⟩
    · (conv=>whnf);obtain rfl:=Option.some.inj g3;obtain rfl:=hy2 _ rfl;obtain rfl:=Option.some.inj h;exact lfP []
noncomputable def impl_NatBookOk_m (a0:NatBook):Option (Bool) :=
 bd (impl_NetOk_m (⟨a0.Addr,a0.Len⟩:NetPrefix)) fun x1 =>
 bd (gcall ((!x1) = false) (impl_within_m a0.Own 0 65535)) fun x2 =>
 bd (gcall (((!x1) || (!x2)) = false) (impl_NatBook_inside_m a0 a0.Own)) fun x3 =>
 bd (gcall (((((((!x1) || (!x2)) || x3) || (decide (a0.Low<1))) || (decide (a0.Low > a0.High))) || (decide (a0.High > 65535))) = false) (impl_within_m a0.Now 0 1000000)) fun x4 =>
(if (((((((!x1) || (!x2)) || x3) || (decide (a0.Low<1))) || (decide (a0.Low > a0.High))) || (decide (a0.High > 65535))) || (!x4)) = true then
 some false
else
 bd (impl_NatBook_doorsOk_m a0) fun x5 =>
 bd (gcall (x5 = true) (impl_NatBook_entriesOk_m a0)) fun x6 =>
 some (x5 && x6))
theorem impl_NatBookOk_c {a0:NatBook} {r:Bool} (h:impl_NatBookOk_m a0 = some r):PureC Try.prog 50 [.agg [.d (.int .i64 a0.Addr),.d (.int .i64 a0.Len),.d (.int .i64 a0.Own),.d (.int .i64 a0.Low),.d (.int .i64 a0.High),.d (slD NatDoor.enc a0.Doors),.d (.int .i64 a0.Now),.d (slD NatEntry.enc a0.Entries)]] (.d (.bool r)) []:=by
  refine pureC_x tOk (fn:=Try.f50) (c:=codeOf Try.f50) rfl rfl ?_;unfold impl_NatBookOk_m at h;(conv=>whnf);refine seq_in tOk ?_;(conv=>whnf);obtain ⟨x1,hx1,h⟩:=bd_some h;refine cC 0 (impl_NetOk_c hx1) ?_;clear hx1;(conv=>whnf);obtain ⟨x2,hx2,h⟩:=bd_some h;refine cG (fun c0=>impl_within_c (gcall_some hx2 c0)) ?_;(conv=>whnf);obtain ⟨x3,hx3,h⟩:=bd_some h;refine cG (fun c0=>impl_NatBook_inside_c (gcall_some hx3 c0)) ?_;(conv=>whnf);obtain ⟨x4,hx4,h⟩:=bd_some h;refine cG (fun c0=>impl_within_c (gcall_some hx4 c0)) ?_;(conv=>whnf);refine andI h (fun _ h=>?_) (fun _ h=>?_)
  · (conv=>whnf);obtain rfl:=Option.some.inj h;exact lfP []
  · (conv=>whnf);obtain ⟨x5,hx5,h⟩:=bd_some h;refine cC 0 (impl_NatBook_doorsOk_c hx5) ?_;clear hx5;(conv=>whnf);obtain ⟨x6,hx6,h⟩:=bd_some h;refine cG (fun c0=>impl_NatBook_entriesOk_c (gcall_some hx6 c0)) ?_;(conv=>whnf);obtain rfl:=Option.some.inj h;exact lfP []
noncomputable def impl_clone_NatDoor_m (a0:(List NatDoor)):Option ((List NatDoor)) :=
 gd ((0:Int)≤0∧0≤((a0.length:Nat):Int)∧((a0.length:Nat):Int) * 32≤140737488355328∧((a0.length:Nat):Int)≤140737488355328) <|
 gd ((((List.replicate (0:Int).toNat (default:NatDoor)).length)+(a0.length)) * (32+1)≤70368744177664) <|
 some ((List.replicate (0:Int).toNat (default:NatDoor)) ++ a0)
theorem impl_clone_NatDoor_c {a0:(List NatDoor)} {r:(List NatDoor)} (h:impl_clone_NatDoor_m a0 = some r):PureC Try.prog 110 [.d (slD NatDoor.enc a0)] (.osl 5001 0 r.length) [⟨5001,104,4,r.length,rows NatDoor.enc r⟩]:=by
  refine pureC_x tOk (fn:=Try.f110) (c:=codeOf Try.f110) rfl rfl ?_;unfold impl_clone_NatDoor_m at h;(conv=>whnf);obtain ⟨g2,h⟩:=gd_some h;refine And.intro g2 ?_;clear g2;refine ⟨(List.replicate (0:Int).toNat (default:NatDoor)).length,rows NatDoor.enc (List.replicate (0:Int).toNat (default:NatDoor)),by simp,make_rows rfl,?_⟩;(conv=>whnf);refine gdI h (fun h=>?_);refine appS (enc:=NatDoor.enc) (xs:=(List.replicate (0:Int).toNat (default:NatDoor))) (ys:=a0) ?_;(conv=>whnf);obtain rfl:=Option.some.inj h;exact lfP [.s [(5,5001),(5001,5)]]
noncomputable def impl_clone_NatEntry_m (a0:(List NatEntry)):Option ((List NatEntry)) :=
 gd ((0:Int)≤0∧0≤((a0.length:Nat):Int)∧((a0.length:Nat):Int) * 56≤140737488355328∧((a0.length:Nat):Int)≤140737488355328) <|
 gd ((((List.replicate (0:Int).toNat (default:NatEntry)).length)+(a0.length)) * (56+1)≤70368744177664) <|
 some ((List.replicate (0:Int).toNat (default:NatEntry)) ++ a0)
theorem impl_clone_NatEntry_c {a0:(List NatEntry)} {r:(List NatEntry)} (h:impl_clone_NatEntry_m a0 = some r):PureC Try.prog 111 [.d (slD NatEntry.enc a0)] (.osl 5001 0 r.length) [⟨5001,65,7,r.length,rows NatEntry.enc r⟩]:=by
  refine pureC_x tOk (fn:=Try.f111) (c:=codeOf Try.f111) rfl rfl ?_;unfold impl_clone_NatEntry_m at h;(conv=>whnf);obtain ⟨g2,h⟩:=gd_some h;refine And.intro g2 ?_;clear g2;refine ⟨(List.replicate (0:Int).toNat (default:NatEntry)).length,rows NatEntry.enc (List.replicate (0:Int).toNat (default:NatEntry)),by simp,make_rows rfl,?_⟩;(conv=>whnf);refine gdI h (fun h=>?_);refine appS (enc:=NatEntry.enc) (xs:=(List.replicate (0:Int).toNat (default:NatEntry))) (ys:=a0) ?_;(conv=>whnf);obtain rfl:=Option.some.inj h;exact lfP [.s [(5,5001),(5001,5)]]
noncomputable def impl_copyBook_m (a0:NatBook):Option (NatBook) :=
 bd (impl_clone_NatDoor_m a0.Doors) fun x1 =>
 bd (impl_clone_NatEntry_m a0.Entries) fun x2 =>
 some ({ a0 with Doors:=x1,Entries:=x2 })
theorem impl_copyBook_c {a0:NatBook} {r:NatBook} (h:impl_copyBook_m a0 = some r):PureC Try.prog 51 [.agg [.d (.int .i64 a0.Addr),.d (.int .i64 a0.Len),.d (.int .i64 a0.Own),.d (.int .i64 a0.Low),.d (.int .i64 a0.High),.d (slD NatDoor.enc a0.Doors),.d (.int .i64 a0.Now),.d (slD NatEntry.enc a0.Entries)]] (.agg [.d (.int .i64 r.Addr),.d (.int .i64 r.Len),.d (.int .i64 r.Own),.d (.int .i64 r.Low),.d (.int .i64 r.High),.osl 5001 0 r.Doors.length,.d (.int .i64 r.Now),.osl 5002 0 r.Entries.length]) [⟨5001,104,4,r.Doors.length,rows NatDoor.enc r.Doors⟩,⟨5002,65,7,r.Entries.length,rows NatEntry.enc r.Entries⟩]:=by
  refine pureC_x tOk (fn:=Try.f51) (c:=codeOf Try.f51) rfl rfl ?_;unfold impl_copyBook_m at h;(conv=>whnf);obtain ⟨x1,hx1,h⟩:=bd_some h;obtain ⟨x2,hx2,h⟩:=bd_some h;refine draw_u tOk [.u 2 1000 (.osl 5001 0 x1.length) [⟨5001,104,4,x1.length,rows NatDoor.enc x1⟩],.u 5 2000 (.osl 5001 0 x2.length) [⟨5001,65,7,x2.length,rows NatEntry.enc x2⟩]] 7 [] [0,1,3,0,8,31,31] [127,255,511] ?_;(conv=>whnf);refine And.intro (callD_any (impl_clone_NatDoor_c hx1) (by kernel_rfl)) ?_;(conv=>whnf);refine And.intro (callD_any (impl_clone_NatEntry_c hx2) (by kernel_rfl)) ?_;(conv=>whnf);refine And.intro (by kernel_rfl) ?_;(conv=>whnf);obtain rfl:=Option.some.inj h;exact lfP [.s [(5001,6001),(5002,7001),(6001,5001),(7001,5002)]]
noncomputable def impl_NatTick_1_m (a0:NatEntry) (a1:NatBook):Option (Bool) :=
 bd (impl_NatBook_age_m a1 a0) fun x1 =>
 some (decide (x1 ≥ 12))
theorem impl_NatTick_1_c {a0:NatEntry} {a1:NatBook} {r:Bool} (h:impl_NatTick_1_m a0 a1 = some r):PureC Try.prog 53 [.agg [.d (.int .i64 a0.Kind),.d (.int .i64 a0.Peer),.d (.int .i64 a0.PeerPort),.d (.int .i64 a0.Outer),.d (.int .i64 a0.Inner),.d (.int .i64 a0.InnerPort),.d (.int .i64 a0.Last)],.rp [.int .i64 a1.Addr,.int .i64 a1.Len,.int .i64 a1.Own,.int .i64 a1.Low,.int .i64 a1.High,slD NatDoor.enc a1.Doors,.int .i64 a1.Now,slD NatEntry.enc a1.Entries]] (.d (.bool r)) []:=by
  refine pureC_x tOk (fn:=Try.f53) (c:=codeOf Try.f53) rfl rfl ?_;unfold impl_NatTick_1_m at h;(conv=>whnf);obtain ⟨x1,hx1,h⟩:=bd_some h;refine cC 0 (impl_NatBook_age_c hx1) ?_;clear hx1;(conv=>whnf);obtain rfl:=Option.some.inj h;exact lfP []
noncomputable def slices_IndexFunc_NatEntry_NatEntry_impl_NatTick_1_m (a0:(List NatEntry)) (a1c0:NatBook):Option (Int) :=
 bd (lp (σ:=Int) (β:=(Int ⊕ Unit)) (fun s1 =>
(if (decide (s1<((a0.length:Nat):Int))) = true then
 gd ((0:Int)≤s1∧s1<((a0.length:Nat):Int)) <|
 bd (impl_NatTick_1_m (a0.getD s1.toNat default) a1c0) fun x6 =>
(if x6 = true then
 some (.inr (.inl s1))
else
 some (.inl (IntKind.i64.wrap (s1+1))))
else
 some (.inr (.inr ())))) 0) fun x4 =>
(match x4 with
| .inl d7 =>
 some d7
| .inr d8 =>
 some (-1))
theorem slices_IndexFunc_NatEntry_NatEntry_impl_NatTick_1_c {a0:(List NatEntry)} {a1c0:NatBook} {r:Int} (h:slices_IndexFunc_NatEntry_NatEntry_impl_NatTick_1_m a0 a1c0 = some r):PureC Try.prog 112 [.d (slD NatEntry.enc a0),.fn 53 [.rp [.int .i64 a1c0.Addr,.int .i64 a1c0.Len,.int .i64 a1c0.Own,.int .i64 a1c0.Low,.int .i64 a1c0.High,slD NatDoor.enc a1c0.Doors,.int .i64 a1c0.Now,slD NatEntry.enc a1c0.Entries]]] (.d (.int .i64 r)) []:=by
  refine pureC_x tOk (fn:=Try.f112) (c:=codeOf Try.f112) rfl rfl ?_;unfold slices_IndexFunc_NatEntry_NatEntry_impl_NatTick_1_m at h;(conv=>whnf);refine seq_in tOk ?_;(conv=>whnf);obtain ⟨x4,hx4,h⟩:=bd_some h;refine loop_m tOk hx4 (fun s1=>⟨0,19,[(0,.d (slD NatEntry.enc a0)),(1,.fn 53 [.rp [.int .i64 a1c0.Addr,.int .i64 a1c0.Len,.int .i64 a1c0.Own,.int .i64 a1c0.Low,.int .i64 a1c0.High,slD NatDoor.enc a1c0.Doors,.int .i64 a1c0.Now,slD NatEntry.enc a1c0.Entries]]),(7,.d (.int .i64 ((a0.length:Nat):Int))),(8,.d (.int .i64 s1))],[],[],[]⟩) ?_ ?_
  · exact leX []
  · clear hx4;intro s1 y2 g3 hy2;(conv=>whnf);refine seq_in tOk ?_;(conv=>whnf);refine andI g3 (fun _ g3=>?_) (fun _ g3=>?_)
    · (conv=>whnf);refine seq_in tOk ?_;(conv=>whnf);refine gdI g3 (fun g3=>?_);(conv=>whnf);obtain ⟨x6,hx6,g3⟩:=bd_some g3;refine cC 0 (impl_NatTick_1_c hx6) ?_;clear hx6;(conv=>whnf);refine andI g3 (fun _ g3=>?_) (fun _ g3=>?_)
      · (conv=>whnf);obtain rfl:=Option.some.inj g3;obtain rfl:=hy2 _ rfl;obtain rfl:=Option.some.inj h;exact lfP []
      · (conv=>whnf);obtain rfl:=Option.some.inj g3;exact ⟨_,rfl,leX []⟩
    · (conv=>whnf);obtain rfl:=Option.some.inj g3;obtain rfl:=hy2 _ rfl;obtain rfl:=Option.some.inj h;exact lfP []
noncomputable def impl_NatTick_m (a0:NatBook):Option (NatBook × Int) :=
 bd (impl_NatBookOk_m a0) fun x1 =>
(if (!x1) = true then
 some ((⟨0,0,0,0,0,[],0,[]⟩:NatBook),1)
else
 bd (impl_copyBook_m a0) fun x2 =>
(if (a0.Now == 1000000) = true then
 some (x2,2)
else
 bd (slices_IndexFunc_NatEntry_NatEntry_impl_NatTick_1_m x2.Entries ({ x2 with Now:=IntKind.i64.wrap (x2.Now+1) })) fun x3 =>
(if (x3 == (-1)) = true then
 some ({ x2 with Now:=IntKind.i64.wrap (x2.Now+1) },0)
else
 bd (lp (σ:=List NatEntry × Int × Int) (β:=(Nat × Int × (List NatEntry))) (fun s4 =>
(if (decide (s4.2.2<((s4.1.length:Nat):Int))) = true then
 gd ((0:Int)≤s4.2.2∧s4.2.2<((s4.1.length:Nat):Int)) <|
 bd (impl_NatTick_1_m (s4.1.getD s4.2.2.toNat default) ({ x2 with Now:=IntKind.i64.wrap (x2.Now+1),Entries:=s4.1 })) fun x9 =>
(if (!x9) = true then
 gd ((0:Int)≤s4.2.1∧s4.2.1<((s4.1.length:Nat):Int)) <|
 some (.inl (s4.1.set s4.2.1.toNat (s4.1.getD s4.2.2.toNat default),IntKind.i64.wrap (s4.2.1+1),IntKind.i64.wrap (s4.2.2+1)))
else
 some (.inl (s4.1,s4.2.1,IntKind.i64.wrap (s4.2.2+1))))
else
 some (.inr (s4.1.length,s4.2.1,s4.1)))) (x2.Entries,x3,IntKind.i64.wrap (x3+1))) fun x7 =>
 gd ((0:Int)≤x7.2.1∧x7.2.1≤((x7.1:Nat):Int)∧((x7.1:Nat):Int)≤((x7.1:Nat):Int)) <|
 gd ((0:Int)≤(0:Int)∧(0:Int)≤x7.2.1∧x7.2.1≤((x7.1:Nat):Int)) <|
 some ({ x2 with Now:=IntKind.i64.wrap (x2.Now+1),Entries:=(clrL x7.2.2 x7.2.1.toNat (dsub ((x7.1:Nat):Int) x7.2.1)).take x7.2.1.toNat },0))))
theorem impl_NatTick_c {a0:NatBook} {r:NatBook × Int} (h:impl_NatTick_m a0 = some r):PureC Try.prog 20 [.agg [.d (.int .i64 a0.Addr),.d (.int .i64 a0.Len),.d (.int .i64 a0.Own),.d (.int .i64 a0.Low),.d (.int .i64 a0.High),.d (slD NatDoor.enc a0.Doors),.d (.int .i64 a0.Now),.d (slD NatEntry.enc a0.Entries)]] (.tup [.agg [.d (.int .i64 r.1.Addr),.d (.int .i64 r.1.Len),.d (.int .i64 r.1.Own),.d (.int .i64 r.1.Low),.d (.int .i64 r.1.High),.osl 5001 0 r.1.Doors.length,.d (.int .i64 r.1.Now),.osl 5002 0 r.1.Entries.length],.d (.int .i64 r.2)]) [⟨5001,104,4,r.1.Doors.length,rows NatDoor.enc r.1.Doors⟩,⟨5002,65,7,r.1.Entries.length,rows NatEntry.enc r.1.Entries⟩]:=by
  refine pureC_x tOk (fn:=Try.f20) (c:=codeOf Try.f20) rfl rfl ?_;unfold impl_NatTick_m at h;(conv=>whnf);refine seq_in tOk ?_;(conv=>whnf);obtain ⟨x1,hx1,h⟩:=bd_some h;refine cC 0 (impl_NatBookOk_c hx1) ?_;clear hx1;(conv=>whnf);refine andI h (fun _ h=>?_) (fun _ h=>?_)
  · (conv=>whnf);obtain rfl:=Option.some.inj h;exact lfP [.k [1],.p 5001 104 4 (rows NatDoor.enc ([]:List NatDoor)),.p 5002 65 7 (rows NatEntry.enc ([]:List NatEntry))]
  · (conv=>whnf);obtain ⟨x2,hx2,h⟩:=bd_some h;refine cC 1000 (impl_copyBook_c hx2) ?_;clear hx2;(conv=>whnf);refine seq_in tOk ?_;(conv=>whnf);refine andI h (fun _ h=>?_) (fun _ h=>?_)
    · (conv=>whnf);obtain rfl:=Option.some.inj h;exact lfP [.s [(5001,6001),(5002,6002),(6001,5001),(6002,5002)]]
    · (conv=>whnf);refine callI tOk 20000 (fn:=Try.f52) (c:=codeOf Try.f52) rfl rfl (by kernel_rfl) rfl ?_;(conv=>whnf);obtain ⟨x3,hx3,h⟩:=bd_some h;refine cC 0 (slices_IndexFunc_NatEntry_NatEntry_impl_NatTick_1_c hx3) ?_;clear hx3;(conv=>whnf);refine seq_in tOk ?_;(conv=>whnf);refine andI h (fun _ h=>?_) (fun _ h=>?_)
      · (conv=>whnf);obtain rfl:=Option.some.inj h;exact lfP [.s [(5001,6001),(5002,6002),(6001,5001),(6002,5002)]]
      · (conv=>whnf);refine seq_in tOk ?_;(conv=>whnf);obtain ⟨x7,hx7,h⟩:=bd_some h;refine loop_m tOk hx7 (fun s4=>⟨20000,42,[(0,.osl 6002 0 s4.1.length),(1,.fn 53 [.ref 4 0 0]),(5,.d (.int .i64 s4.2.1)),(6,.d (.int .i64 s4.2.2))],[],[(4,.box 56 [.d (.int .i64 x2.Addr),.d (.int .i64 x2.Len),.d (.int .i64 x2.Own),.d (.int .i64 x2.Low),.d (.int .i64 x2.High),.osl 6001 0 x2.Doors.length,.d (.int .i64 (IntKind.i64.wrap (x2.Now+1))),.osl 6002 0 s4.1.length]),(6002,.arr 65 7 s4.1.length (rows NatEntry.enc s4.1)),(6001,.arr 104 4 x2.Doors.length (rows NatDoor.enc x2.Doors)),(2,.box 56 [.d (.int .i64 0),.d (.int .i64 0),.d (.int .i64 0),.d (.int .i64 0),.d (.int .i64 0),.d (.nil),.d (.int .i64 0),.d (.nil)]),(1,.box 56 [.d (.int .i64 a0.Addr),.d (.int .i64 a0.Len),.d (.int .i64 a0.Own),.d (.int .i64 a0.Low),.d (.int .i64 a0.High),.d (slD NatDoor.enc a0.Doors),.d (.int .i64 a0.Now),.d (slD NatEntry.enc a0.Entries)])],[⟨[(0,.agg [.d (.int .i64 a0.Addr),.d (.int .i64 a0.Len),.d (.int .i64 a0.Own),.d (.int .i64 a0.Low),.d (.int .i64 a0.High),.d (slD NatDoor.enc a0.Doors),.d (.int .i64 a0.Now),.d (slD NatEntry.enc a0.Entries)]),(1,.ref 1 0 0),(2,.ref 2 0 0),(3,.d (.int .i64 0)),(4,.ref 4 0 0),(5,.agg [.d (.int .i64 a0.Addr),.d (.int .i64 a0.Len),.d (.int .i64 a0.Own),.d (.int .i64 a0.Low),.d (.int .i64 a0.High),.d (slD NatDoor.enc a0.Doors),.d (.int .i64 a0.Now),.d (slD NatEntry.enc a0.Entries)]),(6,.d (.bool x1)),(7,.d (.bool (!x1))),(9,.agg [.d (.int .i64 a0.Addr),.d (.int .i64 a0.Len),.d (.int .i64 a0.Own),.d (.int .i64 a0.Low),.d (.int .i64 a0.High),.d (slD NatDoor.enc a0.Doors),.d (.int .i64 a0.Now),.d (slD NatEntry.enc a0.Entries)]),(10,.agg [.d (.int .i64 x2.Addr),.d (.int .i64 x2.Len),.d (.int .i64 x2.Own),.d (.int .i64 x2.Low),.d (.int .i64 x2.High),.osl 6001 0 x2.Doors.length,.d (.int .i64 x2.Now),.osl 6002 0 s4.1.length]),(11,.ref 1 0 6),(12,.d (.int .i64 a0.Now)),(13,.d (.bool (a0.Now == 1000000))),(15,.ref 4 0 6),(16,.d (.int .i64 x2.Now)),(17,.d (.int .i64 (IntKind.i64.wrap (x2.Now+1)))),(18,.ref 4 0 6),(19,.ref 4 0 7),(20,.osl 6002 0 s4.1.length),(21,.fn 53 [.ref 4 0 0])],[]⟩]⟩) ?_ ?_
        · exact leX []
        · clear hx7;intro s4 y5 g6 hy5;(conv=>whnf);refine seq_in tOk ?_;(conv=>whnf);refine andI g6 (fun _ g6=>?_) (fun _ g6=>?_)
          · (conv=>whnf);refine seq_in tOk ?_;(conv=>whnf);refine gdI g6 (fun g6=>?_);(conv=>whnf);obtain ⟨x9,hx9,g6⟩:=bd_some g6;refine cC 0 (impl_NatTick_1_c hx9) ?_;clear hx9;(conv=>whnf);refine andI g6 (fun _ g6=>?_) (fun _ g6=>?_)
            · (conv=>whnf);refine gdI g6 (fun g6=>?_);(conv=>whnf);refine ⟨rows NatEntry.enc (s4.1.set s4.2.1.toNat (s4.1.getD s4.2.2.toNat default)),store_rows' lenA rfl,?_⟩;(conv=>whnf);obtain rfl:=Option.some.inj g6;exact ⟨_,rfl,leX []⟩
            · (conv=>whnf);obtain rfl:=Option.some.inj g6;exact ⟨_,rfl,leX []⟩
          · (conv=>whnf);obtain rfl:=Option.some.inj g6;obtain rfl:=hy5 _ rfl;obtain ⟨g12,h⟩:=gd_some h;refine And.intro g12 ?_;(conv=>whnf);refine ⟨rows NatEntry.enc (clrL (s4.1.length,s4.2.1,s4.1).2.2 (s4.1.length,s4.2.1,s4.1).2.1.toNat (dsub (((s4.1.length,s4.2.1,s4.1).1:Nat):Int) (s4.1.length,s4.2.1,s4.1).2.1)),clr_rows lenA rfl,?_⟩;(conv=>whnf);obtain ⟨g13,h⟩:=gd_some h;refine And.intro g13 ?_;(conv=>whnf);obtain rfl:=Option.some.inj h;exact lfP [.cb 2 7,.s [(5001,6001),(5002,6002),(6001,5001),(6002,5002)]]
noncomputable def laws_eqNatDoor_m (a0:NatDoor) (a1:NatDoor):Option (Bool) :=
(if (a0.Kind != a1.Kind) = true then
 some false
else
(if (a0.Outer != a1.Outer) = true then
 some false
else
(if (a0.Inner != a1.Inner) = true then
 some false
else
(if (a0.InnerPort != a1.InnerPort) = true then
 some false
else
 some true))))
theorem laws_eqNatDoor_c {a0:NatDoor} {a1:NatDoor} {r:Bool} (h:laws_eqNatDoor_m a0 a1 = some r):PureC Try.prog 113 [.agg [.d (.int .i64 a0.Kind),.d (.int .i64 a0.Outer),.d (.int .i64 a0.Inner),.d (.int .i64 a0.InnerPort)],.agg [.d (.int .i64 a1.Kind),.d (.int .i64 a1.Outer),.d (.int .i64 a1.Inner),.d (.int .i64 a1.InnerPort)]] (.d (.bool r)) []:=by
  refine pureC_x tOk (fn:=Try.f113) (c:=codeOf Try.f113) rfl rfl ?_;unfold laws_eqNatDoor_m at h;(conv=>whnf);refine seq_in tOk ?_;(conv=>whnf);refine andI h (fun _ h=>?_) (fun _ h=>?_)
  · (conv=>whnf);obtain rfl:=Option.some.inj h;exact lfP []
  · (conv=>whnf);refine seq_in tOk ?_;(conv=>whnf);refine andI h (fun _ h=>?_) (fun _ h=>?_)
    · (conv=>whnf);obtain rfl:=Option.some.inj h;exact lfP []
    · (conv=>whnf);refine seq_in tOk ?_;(conv=>whnf);refine andI h (fun _ h=>?_) (fun _ h=>?_)
      · (conv=>whnf);obtain rfl:=Option.some.inj h;exact lfP []
      · (conv=>whnf);refine seq_in tOk ?_;(conv=>whnf);refine andI h (fun _ h=>?_) (fun _ h=>?_)
        · (conv=>whnf);obtain rfl:=Option.some.inj h;exact lfP []
        · (conv=>whnf);obtain rfl:=Option.some.inj h;exact lfP []
noncomputable def laws_eqNatDoorS_m (a0:(List NatDoor)) (a1:(List NatDoor)):Option (Bool) :=
(if (((a0.length:Nat):Int) != ((a1.length:Nat):Int)) = true then
 some false
else
 bd (lp (σ:=Int) (β:=(Unit ⊕ Unit)) (fun s1 =>
(if (decide (s1<((a0.length:Nat):Int))) = true then
 gd ((0:Int)≤s1∧s1<((a0.length:Nat):Int)) <|
 gd ((0:Int)≤s1∧s1<((a1.length:Nat):Int)) <|
 bd (laws_eqNatDoor_m (a0.getD s1.toNat default) (a1.getD s1.toNat default)) fun x7 =>
(if (!x7) = true then
 some (.inr (.inl ()))
else
 some (.inl (IntKind.i64.wrap (s1+1))))
else
 some (.inr (.inr ())))) 0) fun x4 =>
(match x4 with
| .inl d8 =>
 some false
| .inr d9 =>
 some true))
theorem laws_eqNatDoorS_c {a0:(List NatDoor)} {a1:(List NatDoor)} {r:Bool} (h:laws_eqNatDoorS_m a0 a1 = some r):PureC Try.prog 55 [.d (slD NatDoor.enc a0),.d (slD NatDoor.enc a1)] (.d (.bool r)) []:=by
  refine pureC_x tOk (fn:=Try.f55) (c:=codeOf Try.f55) rfl rfl ?_;unfold laws_eqNatDoorS_m at h;(conv=>whnf);refine seq_in tOk ?_;(conv=>whnf);refine andI h (fun _ h=>?_) (fun _ h=>?_)
  · (conv=>whnf);obtain rfl:=Option.some.inj h;exact lfP []
  · (conv=>whnf);refine seq_in tOk ?_;(conv=>whnf);obtain ⟨x4,hx4,h⟩:=bd_some h;refine loop_m tOk hx4 (fun s1=>⟨0,27,[(0,.d (slD NatDoor.enc a0)),(1,.d (slD NatDoor.enc a1)),(5,.d (.int .i64 s1))],[],[],[]⟩) ?_ ?_
    · exact leX []
    · clear hx4;intro s1 y2 g3 hy2;(conv=>whnf);refine seq_in tOk ?_;(conv=>whnf);refine andI g3 (fun _ g3=>?_) (fun _ g3=>?_)
      · (conv=>whnf);refine seq_in tOk ?_;(conv=>whnf);obtain ⟨g5,g3⟩:=gd_some g3;obtain ⟨g6,g3⟩:=gd_some g3;obtain ⟨x7,hx7,g3⟩:=bd_some g3;refine draw_u tOk [.u 8 0 (.d (.bool x7)) []] 10 [] [0,0,3,7,0,0,48,112,255,511] [] ?_;(conv=>whnf);refine And.intro g5 ?_;clear g5;(conv=>whnf);refine And.intro g6 ?_;clear g6;(conv=>whnf);refine And.intro (callD_any (laws_eqNatDoor_c hx7) (by kernel_rfl)) ?_;(conv=>whnf);refine And.intro (by kernel_rfl) ?_;(conv=>whnf);refine andI g3 (fun _ g3=>?_) (fun _ g3=>?_)
        · (conv=>whnf);obtain rfl:=Option.some.inj g3;obtain rfl:=hy2 _ rfl;obtain rfl:=Option.some.inj h;exact lfP []
        · (conv=>whnf);obtain rfl:=Option.some.inj g3;exact ⟨_,rfl,leX []⟩
      · (conv=>whnf);obtain rfl:=Option.some.inj g3;obtain rfl:=hy2 _ rfl;obtain rfl:=Option.some.inj h;exact lfP []
noncomputable def laws_eqNatEntry_m (a0:NatEntry) (a1:NatEntry):Option (Bool) :=
(if (a0.Kind != a1.Kind) = true then
 some false
else
(if (a0.Peer != a1.Peer) = true then
 some false
else
(if (a0.PeerPort != a1.PeerPort) = true then
 some false
else
(if (a0.Outer != a1.Outer) = true then
 some false
else
(if (a0.Inner != a1.Inner) = true then
 some false
else
(if (a0.InnerPort != a1.InnerPort) = true then
 some false
else
(if (a0.Last != a1.Last) = true then
 some false
else
 some true)))))))
theorem laws_eqNatEntry_c {a0:NatEntry} {a1:NatEntry} {r:Bool} (h:laws_eqNatEntry_m a0 a1 = some r):PureC Try.prog 114 [.agg [.d (.int .i64 a0.Kind),.d (.int .i64 a0.Peer),.d (.int .i64 a0.PeerPort),.d (.int .i64 a0.Outer),.d (.int .i64 a0.Inner),.d (.int .i64 a0.InnerPort),.d (.int .i64 a0.Last)],.agg [.d (.int .i64 a1.Kind),.d (.int .i64 a1.Peer),.d (.int .i64 a1.PeerPort),.d (.int .i64 a1.Outer),.d (.int .i64 a1.Inner),.d (.int .i64 a1.InnerPort),.d (.int .i64 a1.Last)]] (.d (.bool r)) []:=by
  refine pureC_x tOk (fn:=Try.f114) (c:=codeOf Try.f114) rfl rfl ?_;unfold laws_eqNatEntry_m at h;(conv=>whnf);refine seq_in tOk ?_;(conv=>whnf);refine andI h (fun _ h=>?_) (fun _ h=>?_)
  · (conv=>whnf);obtain rfl:=Option.some.inj h;exact lfP []
  · (conv=>whnf);refine seq_in tOk ?_;(conv=>whnf);refine andI h (fun _ h=>?_) (fun _ h=>?_)
    · (conv=>whnf);obtain rfl:=Option.some.inj h;exact lfP []
    · (conv=>whnf);refine seq_in tOk ?_;(conv=>whnf);refine andI h (fun _ h=>?_) (fun _ h=>?_)
      · (conv=>whnf);obtain rfl:=Option.some.inj h;exact lfP []
      · (conv=>whnf);refine seq_in tOk ?_;(conv=>whnf);refine andI h (fun _ h=>?_) (fun _ h=>?_)
        · (conv=>whnf);obtain rfl:=Option.some.inj h;exact lfP []
        · (conv=>whnf);refine seq_in tOk ?_;(conv=>whnf);refine andI h (fun _ h=>?_) (fun _ h=>?_)
          · (conv=>whnf);obtain rfl:=Option.some.inj h;exact lfP []
          · (conv=>whnf);refine seq_in tOk ?_;(conv=>whnf);refine andI h (fun _ h=>?_) (fun _ h=>?_)
            · (conv=>whnf);obtain rfl:=Option.some.inj h;exact lfP []
            · (conv=>whnf);refine seq_in tOk ?_;(conv=>whnf);refine andI h (fun _ h=>?_) (fun _ h=>?_)
              · (conv=>whnf);obtain rfl:=Option.some.inj h;exact lfP []
              · (conv=>whnf);obtain rfl:=Option.some.inj h;exact lfP []
noncomputable def laws_eqNatEntryS_m (a0:(List NatEntry)) (a1:(List NatEntry)):Option (Bool) :=
(if (((a0.length:Nat):Int) != ((a1.length:Nat):Int)) = true then
 some false
else
 bd (lp (σ:=Int) (β:=(Unit ⊕ Unit)) (fun s1 =>
(if (decide (s1<((a0.length:Nat):Int))) = true then
 gd ((0:Int)≤s1∧s1<((a0.length:Nat):Int)) <|
 gd ((0:Int)≤s1∧s1<((a1.length:Nat):Int)) <|
 bd (laws_eqNatEntry_m (a0.getD s1.toNat default) (a1.getD s1.toNat default)) fun x7 =>
(if (!x7) = true then
 some (.inr (.inl ()))
else
 some (.inl (IntKind.i64.wrap (s1+1))))
else
 some (.inr (.inr ())))) 0) fun x4 =>
(match x4 with
| .inl d8 =>
 some false
| .inr d9 =>
 some true))
theorem laws_eqNatEntryS_c {a0:(List NatEntry)} {a1:(List NatEntry)} {r:Bool} (h:laws_eqNatEntryS_m a0 a1 = some r):PureC Try.prog 56 [.d (slD NatEntry.enc a0),.d (slD NatEntry.enc a1)] (.d (.bool r)) []:=by
  refine pureC_x tOk (fn:=Try.f56) (c:=codeOf Try.f56) rfl rfl ?_;unfold laws_eqNatEntryS_m at h;(conv=>whnf);refine seq_in tOk ?_;(conv=>whnf);refine andI h (fun _ h=>?_) (fun _ h=>?_)
  · (conv=>whnf);obtain rfl:=Option.some.inj h;exact lfP []
  · (conv=>whnf);refine seq_in tOk ?_;(conv=>whnf);obtain ⟨x4,hx4,h⟩:=bd_some h;refine loop_m tOk hx4 (fun s1=>⟨0,27,[(0,.d (slD NatEntry.enc a0)),(1,.d (slD NatEntry.enc a1)),(5,.d (.int .i64 s1))],[],[],[]⟩) ?_ ?_
    · exact leX []
    · clear hx4;intro s1 y2 g3 hy2;(conv=>whnf);refine seq_in tOk ?_;(conv=>whnf);refine andI g3 (fun _ g3=>?_) (fun _ g3=>?_)
      · (conv=>whnf);refine seq_in tOk ?_;(conv=>whnf);obtain ⟨g5,g3⟩:=gd_some g3;obtain ⟨g6,g3⟩:=gd_some g3;obtain ⟨x7,hx7,g3⟩:=bd_some g3;refine draw_u tOk [.u 8 0 (.d (.bool x7)) []] 10 [] [0,0,3,7,0,0,48,112,255,511] [] ?_;(conv=>whnf);refine And.intro g5 ?_;clear g5;(conv=>whnf);refine And.intro g6 ?_;clear g6;(conv=>whnf);refine And.intro (callD_any (laws_eqNatEntry_c hx7) (by kernel_rfl)) ?_;(conv=>whnf);refine And.intro (by kernel_rfl) ?_;(conv=>whnf);refine andI g3 (fun _ g3=>?_) (fun _ g3=>?_)
        · (conv=>whnf);obtain rfl:=Option.some.inj g3;obtain rfl:=hy2 _ rfl;obtain rfl:=Option.some.inj h;exact lfP []
        · (conv=>whnf);obtain rfl:=Option.some.inj g3;exact ⟨_,rfl,leX []⟩
      · (conv=>whnf);obtain rfl:=Option.some.inj g3;obtain rfl:=hy2 _ rfl;obtain rfl:=Option.some.inj h;exact lfP []
end Go.Proofs.Ytejhbiefhpgjeaa
