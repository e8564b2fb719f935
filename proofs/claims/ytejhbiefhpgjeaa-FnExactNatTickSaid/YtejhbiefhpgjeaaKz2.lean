/-
  What some of the program's functions compute: their models, and that the functions compute these; no condition.
-/
import Derived.Test.YtejhbiefhpgjeaaTyz
import Derived.Test.YtejhbiefhpgjeaaTbz
import Derived.Test.YtejhbiefhpgjeaaKz1
set_option linter.all false
namespace Go.Proofs.Ytejhbiefhpgjeaa
open Go Go.Ab
set_option maxRecDepth 100000
set_option maxHeartbeats 40000000
noncomputable def laws_eqNatBook_m (a0:NatBook) (a1:NatBook):Option (Bool) :=
(if (a0.Addr != a1.Addr) = true then
 some false
else
(if (a0.Len != a1.Len) = true then
 some false
else
(if (a0.Own != a1.Own) = true then
 some false
else
(if (a0.Low != a1.Low) = true then
 some false
else
(if (a0.High != a1.High) = true then
 some false
else
 bd (laws_eqNatDoorS_m a0.Doors a1.Doors) fun x1 =>
(if (!x1) = true then
 some false
else
(if (a0.Now != a1.Now) = true then
 some false
else
 bd (laws_eqNatEntryS_m a0.Entries a1.Entries) fun x2 =>
(if (!x2) = true then
 some false
else
 some true))))))))
theorem laws_eqNatBook_c {a0:NatBook} {a1:NatBook} {r:Bool} (h:laws_eqNatBook_m a0 a1 = some r):PureC Try.prog 21 [.agg [.d (.int .i64 a0.Addr),.d (.int .i64 a0.Len),.d (.int .i64 a0.Own),.d (.int .i64 a0.Low),.d (.int .i64 a0.High),.d (slD NatDoor.enc a0.Doors),.d (.int .i64 a0.Now),.d (slD NatEntry.enc a0.Entries)],.agg [.d (.int .i64 a1.Addr),.d (.int .i64 a1.Len),.d (.int .i64 a1.Own),.d (.int .i64 a1.Low),.d (.int .i64 a1.High),.d (slD NatDoor.enc a1.Doors),.d (.int .i64 a1.Now),.d (slD NatEntry.enc a1.Entries)]] (.d (.bool r)) []:=by
  refine pureC_x tOk (fn:=Try.f21) (c:=codeOf Try.f21) rfl rfl ?_;unfold laws_eqNatBook_m at h;(conv=>whnf);refine seq_in tOk ?_;(conv=>whnf);refine andI h (fun _ h=>?_) (fun _ h=>?_)
  · (conv=>whnf);obtain rfl:=Option.some.inj h;exact lfP []
  · (conv=>whnf);refine seq_in tOk ?_;(conv=>whnf);refine andI h (fun _ h=>?_) (fun _ h=>?_)
    · (conv=>whnf);obtain rfl:=Option.some.inj h;exact lfP []
    · (conv=>whnf);refine seq_in tOk ?_;(conv=>whnf);refine andI h (fun _ h=>?_) (fun _ h=>?_)
      · (conv=>whnf);obtain rfl:=Option.some.inj h;exact lfP []
      · (conv=>whnf);refine seq_in tOk ?_;(conv=>whnf);refine andI h (fun _ h=>?_) (fun _ h=>?_)
        · (conv=>whnf);obtain rfl:=Option.some.inj h;exact lfP []
        · (conv=>whnf);refine seq_in tOk ?_;(conv=>whnf);refine andI h (fun _ h=>?_) (fun _ h=>?_)
          · (conv=>whnf);obtain rfl:=Option.some.inj h;exact lfP []
          · (conv=>whnf);refine seq_in tOk ?_;(conv=>whnf);obtain ⟨x1,hx1,h⟩:=bd_some h;refine cC 0 (laws_eqNatDoorS_c hx1) ?_;clear hx1;(conv=>whnf);refine andI h (fun _ h=>?_) (fun _ h=>?_)
            · (conv=>whnf);obtain rfl:=Option.some.inj h;exact lfP []
            · (conv=>whnf);refine seq_in tOk ?_;(conv=>whnf);refine andI h (fun _ h=>?_) (fun _ h=>?_)
              · (conv=>whnf);obtain rfl:=Option.some.inj h;exact lfP []
              · (conv=>whnf);refine seq_in tOk ?_;(conv=>whnf);obtain ⟨x2,hx2,h⟩:=bd_some h;refine cC 0 (laws_eqNatEntryS_c hx2) ?_;clear hx2;(conv=>whnf);refine andI h (fun _ h=>?_) (fun _ h=>?_)
                · (conv=>whnf);obtain rfl:=Option.some.inj h;exact lfP []
                · (conv=>whnf);obtain rfl:=Option.some.inj h;exact lfP []
noncomputable def laws_markNatDoorS_m (a0:(List NatDoor)) (a1:Int):Option (Int × (List NatDoor)) :=
 bd (lp (σ:=List NatDoor × Int × Int) (β:=(Int × (List NatDoor) × Nat)) (fun s1 =>
(if (decide (s1.2.2<((s1.1.length:Nat):Int))) = true then
 gd ((0:Int)≤s1.2.2∧s1.2.2<((s1.1.length:Nat):Int)) <|
 gd ((0:Int)≤s1.2.2∧s1.2.2<((s1.1.length:Nat):Int)) <|
 bd (some ((s1.1.set s1.2.2.toNat ({ (s1.1.getD s1.2.2.toNat default) with Kind:=s1.2.1 })).set s1.2.2.toNat ({ ((s1.1.set s1.2.2.toNat ({ (s1.1.getD s1.2.2.toNat default) with Kind:=s1.2.1 })).getD s1.2.2.toNat default) with Outer:=IntKind.i64.wrap (s1.2.1+1) }))) fun x7 =>
 gd ((0:Int)≤s1.2.2∧s1.2.2<((s1.1.length:Nat):Int)) <|
 bd (some (x7.set s1.2.2.toNat ({ (x7.getD s1.2.2.toNat default) with Inner:=IntKind.i64.wrap ((IntKind.i64.wrap (s1.2.1+1))+1) }))) fun x9 =>
 gd ((0:Int)≤s1.2.2∧s1.2.2<((s1.1.length:Nat):Int)) <|
 bd (some (x9.set s1.2.2.toNat ({ (x9.getD s1.2.2.toNat default) with InnerPort:=IntKind.i64.wrap ((IntKind.i64.wrap ((IntKind.i64.wrap (s1.2.1+1))+1))+1) }))) fun x11 =>
 some (.inl (x11,IntKind.i64.wrap ((IntKind.i64.wrap ((IntKind.i64.wrap ((IntKind.i64.wrap (s1.2.1+1))+1))+1))+1),IntKind.i64.wrap (s1.2.2+1)))
else
 some (.inr (s1.2.1,s1.1,s1.1.length)))) (a0,a1,0)) fun x4 =>
 gd (x4.2.2 = a0.length) <|
 some (x4.1,x4.2.1)
theorem laws_markNatDoorS_c {a0:(List NatDoor)} {a1:Int} {r:Int × (List NatDoor)} (h:laws_markNatDoorS_m a0 a1 = some r):EffC Try.prog 57 [.osl 9000 0 a0.length,.d (.int .i64 a1)] [(9000,.arr 104 4 a0.length (rows NatDoor.enc a0))] (.d (.int .i64 r.1)) [(9000,.arr 104 4 a0.length (rows NatDoor.enc r.2))]:=by
  refine effC_x tOk (fn:=Try.f57) (c:=codeOf Try.f57) rfl rfl ?_;unfold laws_markNatDoorS_m at h;(conv=>whnf);refine seq_in tOk ?_;(conv=>whnf);obtain ⟨x4,hx4,h⟩:=bd_some h;refine loop_m tOk hx4 (fun s1=>⟨0,41,[(0,.osl 9000 0 s1.1.length),(1,.d (.int .i64 s1.2.1)),(5,.d (.int .i64 s1.2.2))],[],[(9000,.arr 104 4 s1.1.length (rows NatDoor.enc s1.1))],[⟨[(0,.osl 9000 0 s1.1.length)],[]⟩]⟩) ?_ ?_
  · exact leX []
  · clear hx4;intro s1 y2 g3 hy2;(conv=>whnf);refine seq_in tOk ?_;(conv=>whnf);refine andI g3 (fun _ g3=>?_) (fun _ g3=>?_)
    · (conv=>whnf);refine seq_in tOk ?_;(conv=>whnf);refine gdI g3 (fun g3=>?_);(conv=>whnf);refine ⟨rows NatDoor.enc (s1.1.set s1.2.2.toNat ({ (s1.1.getD s1.2.2.toNat default) with Kind:=s1.2.1 })),store_rows' lenA rfl,?_⟩;(conv=>whnf);refine gdI g3 (fun g3=>?_);(conv=>whnf);obtain ⟨x7,hx7,hlx7,g3⟩:=bd_set g3
      try simp only [List.length_set] at hlx7
      refine setS (enc:=NatDoor.enc) hx7 ?_;(conv=>whnf);refine gdI g3 (fun g3=>?_);(conv=>whnf);obtain ⟨x9,hx9,hlx9,g3⟩:=bd_set g3;refine setS (enc:=NatDoor.enc) hx9 ?_;(conv=>whnf);refine gdI g3 (fun g3=>?_);(conv=>whnf);obtain ⟨x11,hx11,hlx11,g3⟩:=bd_set g3;refine setS (enc:=NatDoor.enc) hx11 ?_;(conv=>whnf);obtain rfl:=Option.some.inj g3;exact ⟨_,rfl,leX []⟩
    · (conv=>whnf);obtain rfl:=Option.some.inj g3;obtain rfl:=hy2 _ rfl;obtain ⟨g13,h⟩:=gd_some h;obtain rfl:=Option.some.inj h;exact lfE []
noncomputable def laws_markNatEntryS_m (a0:(List NatEntry)) (a1:Int):Option (Int × (List NatEntry)) :=
 bd (lp (σ:=List NatEntry × Int × Int) (β:=(Int × (List NatEntry) × Nat)) (fun s1 =>
(if (decide (s1.2.2<((s1.1.length:Nat):Int))) = true then
 gd ((0:Int)≤s1.2.2∧s1.2.2<((s1.1.length:Nat):Int)) <|
 gd ((0:Int)≤s1.2.2∧s1.2.2<((s1.1.length:Nat):Int)) <|
 bd (some ((s1.1.set s1.2.2.toNat ({ (s1.1.getD s1.2.2.toNat default) with Kind:=s1.2.1 })).set s1.2.2.toNat ({ ((s1.1.set s1.2.2.toNat ({ (s1.1.getD s1.2.2.toNat default) with Kind:=s1.2.1 })).getD s1.2.2.toNat default) with Peer:=IntKind.i64.wrap (s1.2.1+1) }))) fun x7 =>
 gd ((0:Int)≤s1.2.2∧s1.2.2<((s1.1.length:Nat):Int)) <|
 bd (some (x7.set s1.2.2.toNat ({ (x7.getD s1.2.2.toNat default) with PeerPort:=IntKind.i64.wrap ((IntKind.i64.wrap (s1.2.1+1))+1) }))) fun x9 =>
 gd ((0:Int)≤s1.2.2∧s1.2.2<((s1.1.length:Nat):Int)) <|
 bd (some (x9.set s1.2.2.toNat ({ (x9.getD s1.2.2.toNat default) with Outer:=IntKind.i64.wrap ((IntKind.i64.wrap ((IntKind.i64.wrap (s1.2.1+1))+1))+1) }))) fun x11 =>
 gd ((0:Int)≤s1.2.2∧s1.2.2<((s1.1.length:Nat):Int)) <|
 bd (some (x11.set s1.2.2.toNat ({ (x11.getD s1.2.2.toNat default) with Inner:=IntKind.i64.wrap ((IntKind.i64.wrap ((IntKind.i64.wrap ((IntKind.i64.wrap (s1.2.1+1))+1))+1))+1) }))) fun x13 =>
 gd ((0:Int)≤s1.2.2∧s1.2.2<((s1.1.length:Nat):Int)) <|
 bd (some (x13.set s1.2.2.toNat ({ (x13.getD s1.2.2.toNat default) with InnerPort:=IntKind.i64.wrap ((IntKind.i64.wrap ((IntKind.i64.wrap ((IntKind.i64.wrap ((IntKind.i64.wrap (s1.2.1+1))+1))+1))+1))+1) }))) fun x15 =>
 gd ((0:Int)≤s1.2.2∧s1.2.2<((s1.1.length:Nat):Int)) <|
 bd (some (x15.set s1.2.2.toNat ({ (x15.getD s1.2.2.toNat default) with Last:=IntKind.i64.wrap ((IntKind.i64.wrap ((IntKind.i64.wrap ((IntKind.i64.wrap ((IntKind.i64.wrap ((IntKind.i64.wrap (s1.2.1+1))+1))+1))+1))+1))+1) }))) fun x17 =>
 some (.inl (x17,IntKind.i64.wrap ((IntKind.i64.wrap ((IntKind.i64.wrap ((IntKind.i64.wrap ((IntKind.i64.wrap ((IntKind.i64.wrap ((IntKind.i64.wrap (s1.2.1+1))+1))+1))+1))+1))+1))+1),IntKind.i64.wrap (s1.2.2+1)))
else
 some (.inr (s1.2.1,s1.1,s1.1.length)))) (a0,a1,0)) fun x4 =>
 gd (x4.2.2 = a0.length) <|
 some (x4.1,x4.2.1)
theorem laws_markNatEntryS_c {a0:(List NatEntry)} {a1:Int} {r:Int × (List NatEntry)} (h:laws_markNatEntryS_m a0 a1 = some r):EffC Try.prog 58 [.osl 9000 0 a0.length,.d (.int .i64 a1)] [(9000,.arr 65 7 a0.length (rows NatEntry.enc a0))] (.d (.int .i64 r.1)) [(9000,.arr 65 7 a0.length (rows NatEntry.enc r.2))]:=by
  refine effC_x tOk (fn:=Try.f58) (c:=codeOf Try.f58) rfl rfl ?_;unfold laws_markNatEntryS_m at h;(conv=>whnf);refine seq_in tOk ?_;(conv=>whnf);obtain ⟨x4,hx4,h⟩:=bd_some h;refine loop_m tOk hx4 (fun s1=>⟨0,62,[(0,.osl 9000 0 s1.1.length),(1,.d (.int .i64 s1.2.1)),(5,.d (.int .i64 s1.2.2))],[],[(9000,.arr 65 7 s1.1.length (rows NatEntry.enc s1.1))],[⟨[(0,.osl 9000 0 s1.1.length)],[]⟩]⟩) ?_ ?_
  · exact leX []
  · clear hx4;intro s1 y2 g3 hy2;(conv=>whnf);refine seq_in tOk ?_;(conv=>whnf);refine andI g3 (fun _ g3=>?_) (fun _ g3=>?_)
    · (conv=>whnf);refine seq_in tOk ?_;(conv=>whnf);refine gdI g3 (fun g3=>?_);(conv=>whnf);refine ⟨rows NatEntry.enc (s1.1.set s1.2.2.toNat ({ (s1.1.getD s1.2.2.toNat default) with Kind:=s1.2.1 })),store_rows' lenA rfl,?_⟩;(conv=>whnf);refine gdI g3 (fun g3=>?_);(conv=>whnf);obtain ⟨x7,hx7,hlx7,g3⟩:=bd_set g3
      try simp only [List.length_set] at hlx7
      refine setS (enc:=NatEntry.enc) hx7 ?_;(conv=>whnf);refine gdI g3 (fun g3=>?_);(conv=>whnf);obtain ⟨x9,hx9,hlx9,g3⟩:=bd_set g3;refine setS (enc:=NatEntry.enc) hx9 ?_;(conv=>whnf);refine gdI g3 (fun g3=>?_);(conv=>whnf);obtain ⟨x11,hx11,hlx11,g3⟩:=bd_set g3;refine setS (enc:=NatEntry.enc) hx11 ?_;(conv=>whnf);refine gdI g3 (fun g3=>?_);(conv=>whnf);obtain ⟨x13,hx13,hlx13,g3⟩:=bd_set g3;refine setS (enc:=NatEntry.enc) hx13 ?_;(conv=>whnf);refine gdI g3 (fun g3=>?_);(conv=>whnf);obtain ⟨x15,hx15,hlx15,g3⟩:=bd_set g3;refine setS (enc:=NatEntry.enc) hx15 ?_;(conv=>whnf);refine gdI g3 (fun g3=>?_);(conv=>whnf);obtain ⟨x17,hx17,hlx17,g3⟩:=bd_set g3;refine setS (enc:=NatEntry.enc) hx17 ?_;(conv=>whnf);obtain rfl:=Option.some.inj g3;exact ⟨_,rfl,leX []⟩
    · (conv=>whnf);obtain rfl:=Option.some.inj g3;obtain rfl:=hy2 _ rfl;obtain ⟨g19,h⟩:=gd_some h;obtain rfl:=Option.some.inj h;exact lfE []
noncomputable def laws_markNatBook_m (a0:NatBook) (a1:Int):Option (Int × NatBook) :=
 bd (laws_markNatDoorS_m a0.Doors a1) fun x1 =>
 gd (x1.2.length = a0.Doors.length) <|
 bd (laws_markNatEntryS_m a0.Entries x1.1) fun x2 =>
 gd (x2.2.length = a0.Entries.length) <|
 some (x2.1,{ a0 with Doors:=x1.2,Entries:=x2.2 })
theorem laws_markNatBook_c {a0:NatBook} {a1:Int} {r:Int × NatBook} (h:laws_markNatBook_m a0 a1 = some r):EffC Try.prog 22 [.agg [.d (.int .i64 a0.Addr),.d (.int .i64 a0.Len),.d (.int .i64 a0.Own),.d (.int .i64 a0.Low),.d (.int .i64 a0.High),.osl 9000 0 a0.Doors.length,.d (.int .i64 a0.Now),.osl 9001 0 a0.Entries.length],.d (.int .i64 a1)] [(9000,.arr 104 4 a0.Doors.length (rows NatDoor.enc a0.Doors)),(9001,.arr 65 7 a0.Entries.length (rows NatEntry.enc a0.Entries))] (.d (.int .i64 r.1)) [(9000,.arr 104 4 a0.Doors.length (rows NatDoor.enc r.2.Doors)),(9001,.arr 65 7 a0.Entries.length (rows NatEntry.enc r.2.Entries))]:=by
  refine effC_x tOk (fn:=Try.f22) (c:=codeOf Try.f22) rfl rfl ?_;unfold laws_markNatBook_m at h;(conv=>whnf);obtain ⟨x1,hx1,h⟩:=bd_some h;obtain ⟨g4,h⟩:=gd_some h;refine cE [(9000,9000)] 0 (laws_markNatDoorS_c hx1) ?_;(conv=>whnf);obtain ⟨x2,hx2,h⟩:=bd_some h;obtain ⟨g3,h⟩:=gd_some h;refine cE [(9000,9001)] 0 (laws_markNatEntryS_c hx2) ?_;(conv=>whnf);obtain rfl:=Option.some.inj h;exact lfE []
noncomputable def laws_heldNatDoorS_m (a0:(List NatDoor)) (a1:Int):Option (Int) :=
 bd (lp (σ:=Int × Int) (β:=(Unit ⊕ Int)) (fun s1 =>
(if (decide (s1.2<((a0.length:Nat):Int))) = true then
 gd ((0:Int)≤s1.2∧s1.2<((a0.length:Nat):Int)) <|
(if (((a0.getD s1.2.toNat default).Kind) != s1.1) = true then
 some (.inr (.inl ()))
else
 gd ((0:Int)≤s1.2∧s1.2<((a0.length:Nat):Int)) <|
(if (((a0.getD s1.2.toNat default).Outer) != (IntKind.i64.wrap (s1.1+1))) = true then
 some (.inr (.inl ()))
else
 gd ((0:Int)≤s1.2∧s1.2<((a0.length:Nat):Int)) <|
(if (((a0.getD s1.2.toNat default).Inner) != (IntKind.i64.wrap ((IntKind.i64.wrap (s1.1+1))+1))) = true then
 some (.inr (.inl ()))
else
 gd ((0:Int)≤s1.2∧s1.2<((a0.length:Nat):Int)) <|
(if (((a0.getD s1.2.toNat default).InnerPort) != (IntKind.i64.wrap ((IntKind.i64.wrap ((IntKind.i64.wrap (s1.1+1))+1))+1))) = true then
 some (.inr (.inl ()))
else
 some (.inl (IntKind.i64.wrap ((IntKind.i64.wrap ((IntKind.i64.wrap ((IntKind.i64.wrap (s1.1+1))+1))+1))+1),IntKind.i64.wrap (s1.2+1)))))))
else
 some (.inr (.inr s1.1)))) (a1,0)) fun x4 =>
(match x4 with
| .inl d9 =>
 some (-1)
| .inr d10 =>
 some d10)
theorem laws_heldNatDoorS_c {a0:(List NatDoor)} {a1:Int} {r:Int} (h:laws_heldNatDoorS_m a0 a1 = some r):PureC Try.prog 59 [.d (slD NatDoor.enc a0),.d (.int .i64 a1)] (.d (.int .i64 r)) []:=by
  refine pureC_x tOk (fn:=Try.f59) (c:=codeOf Try.f59) rfl rfl ?_;unfold laws_heldNatDoorS_m at h;(conv=>whnf);refine seq_in tOk ?_;(conv=>whnf);obtain ⟨x4,hx4,h⟩:=bd_some h;refine loop_m tOk hx4 (fun s1=>⟨0,49,[(0,.d (slD NatDoor.enc a0)),(1,.d (.int .i64 s1.1)),(5,.d (.int .i64 s1.2))],[],[],[]⟩) ?_ ?_
  · exact leX []
  · clear hx4;intro s1 y2 g3 hy2;(conv=>whnf);refine seq_in tOk ?_;(conv=>whnf);refine andI g3 (fun _ g3=>?_) (fun _ g3=>?_)
    · (conv=>whnf);refine seq_in tOk ?_;(conv=>whnf);refine seq_in tOk ?_;(conv=>whnf);refine gdI g3 (fun g3=>?_);(conv=>whnf);refine andI g3 (fun _ g3=>?_) (fun _ g3=>?_)
      · (conv=>whnf);obtain rfl:=Option.some.inj g3;obtain rfl:=hy2 _ rfl;obtain rfl:=Option.some.inj h;exact lfP []
      · (conv=>whnf);refine seq_in tOk ?_;(conv=>whnf);refine gdI g3 (fun g3=>?_);(conv=>whnf);refine andI g3 (fun _ g3=>?_) (fun _ g3=>?_)
        · (conv=>whnf);obtain rfl:=Option.some.inj g3;obtain rfl:=hy2 _ rfl;obtain rfl:=Option.some.inj h;exact lfP []
        · (conv=>whnf);refine seq_in tOk ?_;(conv=>whnf);refine gdI g3 (fun g3=>?_);(conv=>whnf);refine andI g3 (fun _ g3=>?_) (fun _ g3=>?_)
          · (conv=>whnf);obtain rfl:=Option.some.inj g3;obtain rfl:=hy2 _ rfl;obtain rfl:=Option.some.inj h;exact lfP []
          · (conv=>whnf);refine seq_in tOk ?_;(conv=>whnf);refine gdI g3 (fun g3=>?_);(conv=>whnf);refine andI g3 (fun _ g3=>?_) (fun _ g3=>?_)
            · (conv=>whnf);obtain rfl:=Option.some.inj g3;obtain rfl:=hy2 _ rfl;obtain rfl:=Option.some.inj h;exact lfP []
            · (conv=>whnf);obtain rfl:=Option.some.inj g3;exact ⟨_,rfl,leX []⟩
    · (conv=>whnf);obtain rfl:=Option.some.inj g3;obtain rfl:=hy2 _ rfl;obtain rfl:=Option.some.inj h;exact lfP []
noncomputable def laws_heldNatEntryS_m (a0:(List NatEntry)) (a1:Int):Option (Int) :=
 bd (lp (σ:=Int × Int) (β:=(Unit ⊕ Int)) (fun s1 =>
(if (decide (s1.2<((a0.length:Nat):Int))) = true then
 gd ((0:Int)≤s1.2∧s1.2<((a0.length:Nat):Int)) <|
(if (((a0.getD s1.2.toNat default).Kind) != s1.1) = true then
 some (.inr (.inl ()))
else
 gd ((0:Int)≤s1.2∧s1.2<((a0.length:Nat):Int)) <|
(if (((a0.getD s1.2.toNat default).Peer) != (IntKind.i64.wrap (s1.1+1))) = true then
 some (.inr (.inl ()))
else
 gd ((0:Int)≤s1.2∧s1.2<((a0.length:Nat):Int)) <|
(if (((a0.getD s1.2.toNat default).PeerPort) != (IntKind.i64.wrap ((IntKind.i64.wrap (s1.1+1))+1))) = true then
 some (.inr (.inl ()))
else
 gd ((0:Int)≤s1.2∧s1.2<((a0.length:Nat):Int)) <|
(if (((a0.getD s1.2.toNat default).Outer) != (IntKind.i64.wrap ((IntKind.i64.wrap ((IntKind.i64.wrap (s1.1+1))+1))+1))) = true then
 some (.inr (.inl ()))
else
 gd ((0:Int)≤s1.2∧s1.2<((a0.length:Nat):Int)) <|
(if (((a0.getD s1.2.toNat default).Inner) != (IntKind.i64.wrap ((IntKind.i64.wrap ((IntKind.i64.wrap ((IntKind.i64.wrap (s1.1+1))+1))+1))+1))) = true then
 some (.inr (.inl ()))
else
 gd ((0:Int)≤s1.2∧s1.2<((a0.length:Nat):Int)) <|
(if (((a0.getD s1.2.toNat default).InnerPort) != (IntKind.i64.wrap ((IntKind.i64.wrap ((IntKind.i64.wrap ((IntKind.i64.wrap ((IntKind.i64.wrap (s1.1+1))+1))+1))+1))+1))) = true then
 some (.inr (.inl ()))
else
 gd ((0:Int)≤s1.2∧s1.2<((a0.length:Nat):Int)) <|
(if (((a0.getD s1.2.toNat default).Last) != (IntKind.i64.wrap ((IntKind.i64.wrap ((IntKind.i64.wrap ((IntKind.i64.wrap ((IntKind.i64.wrap ((IntKind.i64.wrap (s1.1+1))+1))+1))+1))+1))+1))) = true then
 some (.inr (.inl ()))
else
 some (.inl (IntKind.i64.wrap ((IntKind.i64.wrap ((IntKind.i64.wrap ((IntKind.i64.wrap ((IntKind.i64.wrap ((IntKind.i64.wrap ((IntKind.i64.wrap (s1.1+1))+1))+1))+1))+1))+1))+1),IntKind.i64.wrap (s1.2+1))))))))))
else
 some (.inr (.inr s1.1)))) (a1,0)) fun x4 =>
(match x4 with
| .inl d12 =>
 some (-1)
| .inr d13 =>
 some d13)
theorem laws_heldNatEntryS_c {a0:(List NatEntry)} {a1:Int} {r:Int} (h:laws_heldNatEntryS_m a0 a1 = some r):PureC Try.prog 60 [.d (slD NatEntry.enc a0),.d (.int .i64 a1)] (.d (.int .i64 r)) []:=by
  refine pureC_x tOk (fn:=Try.f60) (c:=codeOf Try.f60) rfl rfl ?_;unfold laws_heldNatEntryS_m at h;(conv=>whnf);refine seq_in tOk ?_;(conv=>whnf);obtain ⟨x4,hx4,h⟩:=bd_some h;refine loop_m tOk hx4 (fun s1=>⟨0,76,[(0,.d (slD NatEntry.enc a0)),(1,.d (.int .i64 s1.1)),(5,.d (.int .i64 s1.2))],[],[],[]⟩) ?_ ?_
  · exact leX []
  · clear hx4;intro s1 y2 g3 hy2;(conv=>whnf);refine seq_in tOk ?_;(conv=>whnf);refine andI g3 (fun _ g3=>?_) (fun _ g3=>?_)
    · (conv=>whnf);refine seq_in tOk ?_;(conv=>whnf);refine seq_in tOk ?_;(conv=>whnf);refine gdI g3 (fun g3=>?_);(conv=>whnf);refine andI g3 (fun _ g3=>?_) (fun _ g3=>?_)
      · (conv=>whnf);obtain rfl:=Option.some.inj g3;obtain rfl:=hy2 _ rfl;obtain rfl:=Option.some.inj h;exact lfP []
      · (conv=>whnf);refine seq_in tOk ?_;(conv=>whnf);refine gdI g3 (fun g3=>?_);(conv=>whnf);refine andI g3 (fun _ g3=>?_) (fun _ g3=>?_)
        · (conv=>whnf);obtain rfl:=Option.some.inj g3;obtain rfl:=hy2 _ rfl;obtain rfl:=Option.some.inj h;exact lfP []
        · (conv=>whnf);refine seq_in tOk ?_;(conv=>whnf);refine gdI g3 (fun g3=>?_);(conv=>whnf);refine andI g3 (fun _ g3=>?_) (fun _ g3=>?_)
          · (conv=>whnf);obtain rfl:=Option.some.inj g3;obtain rfl:=hy2 _ rfl;obtain rfl:=Option.some.inj h;exact lfP []
          · (conv=>whnf);refine seq_in tOk ?_;(conv=>whnf);refine gdI g3 (fun g3=>?_);(conv=>whnf);refine andI g3 (fun _ g3=>?_) (fun _ g3=>?_)
            · (conv=>whnf);obtain rfl:=Option.some.inj g3;obtain rfl:=hy2 _ rfl;obtain rfl:=Option.some.inj h;exact lfP []
            · (conv=>whnf);refine seq_in tOk ?_;(conv=>whnf);refine gdI g3 (fun g3=>?_);(conv=>whnf);refine andI g3 (fun _ g3=>?_) (fun _ g3=>?_)
              · (conv=>whnf);obtain rfl:=Option.some.inj g3;obtain rfl:=hy2 _ rfl;obtain rfl:=Option.some.inj h;exact lfP []
              · (conv=>whnf);refine seq_in tOk ?_;(conv=>whnf);refine gdI g3 (fun g3=>?_);(conv=>whnf);refine andI g3 (fun _ g3=>?_) (fun _ g3=>?_)
                · (conv=>whnf);obtain rfl:=Option.some.inj g3;obtain rfl:=hy2 _ rfl;obtain rfl:=Option.some.inj h;exact lfP []
                · (conv=>whnf);refine seq_in tOk ?_;(conv=>whnf);refine gdI g3 (fun g3=>?_);(conv=>whnf);refine andI g3 (fun _ g3=>?_) (fun _ g3=>?_)
                  · (conv=>whnf);obtain rfl:=Option.some.inj g3;obtain rfl:=hy2 _ rfl;obtain rfl:=Option.some.inj h;exact lfP []
                  · (conv=>whnf);obtain rfl:=Option.some.inj g3;exact ⟨_,rfl,leX []⟩
    · (conv=>whnf);obtain rfl:=Option.some.inj g3;obtain rfl:=hy2 _ rfl;obtain rfl:=Option.some.inj h;exact lfP []
noncomputable def laws_heldNatBook_m (a0:NatBook) (a1:Int):Option (Int) :=
 bd (laws_heldNatDoorS_m a0.Doors a1) fun x1 =>
(if (decide (x1<0)) = true then
 some (-1)
else
 bd (laws_heldNatEntryS_m a0.Entries x1) fun x2 =>
(if (decide (x2<0)) = true then
 some (-1)
else
 some x2))
theorem laws_heldNatBook_c {a0:NatBook} {a1:Int} {r:Int} (h:laws_heldNatBook_m a0 a1 = some r):PureC Try.prog 23 [.agg [.d (.int .i64 a0.Addr),.d (.int .i64 a0.Len),.d (.int .i64 a0.Own),.d (.int .i64 a0.Low),.d (.int .i64 a0.High),.d (slD NatDoor.enc a0.Doors),.d (.int .i64 a0.Now),.d (slD NatEntry.enc a0.Entries)],.d (.int .i64 a1)] (.d (.int .i64 r)) []:=by
  refine pureC_x tOk (fn:=Try.f23) (c:=codeOf Try.f23) rfl rfl ?_;unfold laws_heldNatBook_m at h;(conv=>whnf);obtain ⟨x1,hx1,h⟩:=bd_some h;refine cC 0 (laws_heldNatDoorS_c hx1) ?_;clear hx1;(conv=>whnf);refine seq_in tOk ?_;(conv=>whnf);refine andI h (fun _ h=>?_) (fun _ h=>?_)
  · (conv=>whnf);obtain rfl:=Option.some.inj h;exact lfP []
  · (conv=>whnf);obtain ⟨x2,hx2,h⟩:=bd_some h;refine cC 0 (laws_heldNatEntryS_c hx2) ?_;clear hx2;(conv=>whnf);refine seq_in tOk ?_;(conv=>whnf);refine andI h (fun _ h=>?_) (fun _ h=>?_)
    · (conv=>whnf);obtain rfl:=Option.some.inj h;exact lfP []
    · (conv=>whnf);obtain rfl:=Option.some.inj h;exact lfP []
noncomputable def laws_FnExactNatTick_m (a0:NatBook):Option (Bool) :=
 bd (laws_szNatBook_m a0 1048576) fun x1 =>
(if (decide (x1<0)) = true then
 some true
else
 bd (laws_toNatBook_m a0) fun x2 =>
 bd (spec_NatTick_m x2) fun x3 =>
 bd (laws_toNatBook_m a0) fun x4 =>
 bd (impl_NatTick_m x4) fun x5 =>
 bd (laws_eqNatBook_m x5.1 x3.1) fun x6 =>
(if ((!x6) || (x5.2 != x3.2)) = true then
 some false
else
 bd (laws_toNatBook_m a0) fun x7 =>
 bd (laws_eqNatBook_m x4 x7) fun x8 =>
(if (!x8) = true then
 some false
else
 bd (laws_markNatBook_m x4 1) fun x9 =>
 gd (x9.2.Doors.length = x4.Doors.length) <|
 gd (x9.2.Entries.length = x4.Entries.length) <|
 bd (gcall ((decide (x9.1<0)) = false) (laws_eqNatBook_m x5.1 x3.1)) fun x10 =>
(if (((decide (x9.1<0)) || (!x10)) || (x5.2 != x3.2)) = true then
 some false
else
 bd (laws_markNatBook_m x5.1 1) fun x11 =>
 gd (x11.2.Doors.length = x5.1.Doors.length) <|
 gd (x11.2.Entries.length = x5.1.Entries.length) <|
 bd (laws_heldNatBook_m ({ x5.1 with Doors:=x11.2.Doors,Entries:=x11.2.Entries }) 1) fun x12 =>
(if (decide (x12<0)) = true then
 some false
else
(if (x12 != x11.1) = true then
 some false
else
 bd (laws_toNatBook_m a0) fun x13 =>
 bd (impl_NatTick_m x13) fun x14 =>
 bd (laws_eqNatBook_m x14.1 x3.1) fun x15 =>
(if ((!x15) || (x14.2 != x3.2)) = true then
 some false
else
 bd (laws_heldNatBook_m ({ x5.1 with Doors:=x11.2.Doors,Entries:=x11.2.Entries }) 1) fun x16 =>
(if (decide (x16<0)) = true then
 some false
else
(if (x16 != x11.1) = true then
 some false
else
 some true)))))))))
theorem laws_FnExactNatTick_c {a0:NatBook} {r:Bool} (h:laws_FnExactNatTick_m a0 = some r):PureC Try.prog 4 [.agg [.d (.int .i64 a0.Addr),.d (.int .i64 a0.Len),.d (.int .i64 a0.Own),.d (.int .i64 a0.Low),.d (.int .i64 a0.High),.d (slD NatDoor.enc a0.Doors),.d (.int .i64 a0.Now),.d (slD NatEntry.enc a0.Entries)]] (.d (.bool r)) []:=by
  refine pureC_x tOk (fn:=Try.f4) (c:=codeOf Try.f4) rfl rfl ?_;unfold laws_FnExactNatTick_m at h;(conv=>whnf);obtain ⟨x1,hx1,h⟩:=bd_some h;refine cC 0 (laws_szNatBook_c hx1) ?_;clear hx1;(conv=>whnf);refine seq_in tOk ?_;(conv=>whnf);refine andI h (fun _ h=>?_) (fun _ h=>?_)
  · (conv=>whnf);obtain rfl:=Option.some.inj h;exact lfP []
  · (conv=>whnf);obtain ⟨x2,hx2,h⟩:=bd_some h;refine cC 1000 (laws_toNatBook_c hx2) ?_;clear hx2;(conv=>whnf);obtain ⟨x3,hx3,h⟩:=bd_some h;refine cC 2000 (spec_NatTick_c hx3) ?_;clear hx3;(conv=>whnf);obtain ⟨x4,hx4,h⟩:=bd_some h;refine cC 3000 (laws_toNatBook_c hx4) ?_;clear hx4;(conv=>whnf);obtain ⟨x5,hx5,h⟩:=bd_some h;refine cC 4000 (impl_NatTick_c hx5) ?_;clear hx5;(conv=>whnf);refine seq_in tOk ?_;(conv=>whnf);obtain ⟨x6,hx6,h⟩:=bd_some h;refine cC 0 (laws_eqNatBook_c hx6) ?_;clear hx6;(conv=>whnf);refine andI h (fun _ h=>?_) (fun _ h=>?_)
    · (conv=>whnf);obtain rfl:=Option.some.inj h;exact lfP []
    · (conv=>whnf);refine seq_in tOk ?_;(conv=>whnf);obtain ⟨x7,hx7,h⟩:=bd_some h;obtain ⟨x8,hx8,h⟩:=bd_some h;refine draw_u tOk [.u 2 5000 (.agg [.d (.int .i64 x7.Addr),.d (.int .i64 x7.Len),.d (.int .i64 x7.Own),.d (.int .i64 x7.Low),.d (.int .i64 x7.High),.osl 5001 0 x7.Doors.length,.d (.int .i64 x7.Now),.osl 5002 0 x7.Entries.length]) [⟨5001,104,4,x7.Doors.length,rows NatDoor.enc x7.Doors⟩,⟨5002,65,7,x7.Entries.length,rows NatEntry.enc x7.Entries⟩],.u 3 0 (.d (.bool x8)) []] 5 [] [0,0,2,7,15] [] ?_;(conv=>whnf);refine And.intro (callD_any (laws_toNatBook_c hx7) (by kernel_rfl)) ?_;(conv=>whnf);refine And.intro (callD_any (laws_eqNatBook_c hx8) (by kernel_rfl)) ?_;(conv=>whnf);refine And.intro (by kernel_rfl) ?_;(conv=>whnf);refine andI h (fun _ h=>?_) (fun _ h=>?_)
      · (conv=>whnf);obtain rfl:=Option.some.inj h;exact lfP []
      · (conv=>whnf);obtain ⟨x9,hx9,h⟩:=bd_some h;obtain ⟨g19,h⟩:=gd_some h;obtain ⟨g20,h⟩:=gd_some h;refine cE [(9000,8001),(9001,8002)] 0 (laws_markNatBook_c hx9) ?_;(conv=>whnf);refine seq_in tOk ?_;(conv=>whnf);obtain ⟨x10,hx10,h⟩:=bd_some h;refine cG (fun c0=>laws_eqNatBook_c (gcall_some hx10 c0)) ?_;(conv=>whnf);refine andI h (fun _ h=>?_) (fun _ h=>?_)
        · (conv=>whnf);obtain rfl:=Option.some.inj h;exact lfP []
        · (conv=>whnf);obtain ⟨x11,hx11,h⟩:=bd_some h;obtain ⟨g17,h⟩:=gd_some h;obtain ⟨g18,h⟩:=gd_some h;refine cE [(9000,9001),(9001,9002)] 0 (laws_markNatBook_c hx11) ?_;(conv=>whnf);obtain ⟨x12,hx12,h⟩:=bd_some h;refine callW 0 (laws_heldNatBook_c hx12) rfl argA rfl ?_;(conv=>whnf);refine seq_in tOk ?_;(conv=>whnf);refine andI h (fun _ h=>?_) (fun _ h=>?_)
          · (conv=>whnf);obtain rfl:=Option.some.inj h;exact lfP []
          · (conv=>whnf);refine seq_in tOk ?_;(conv=>whnf);refine andI h (fun _ h=>?_) (fun _ h=>?_)
            · (conv=>whnf);obtain rfl:=Option.some.inj h;exact lfP []
            · (conv=>whnf);obtain ⟨x13,hx13,h⟩:=bd_some h;refine cC 6000 (laws_toNatBook_c hx13) ?_;clear hx13;(conv=>whnf);obtain ⟨x14,hx14,h⟩:=bd_some h;refine cC 7000 (impl_NatTick_c hx14) ?_;clear hx14;(conv=>whnf);refine seq_in tOk ?_;(conv=>whnf);obtain ⟨x15,hx15,h⟩:=bd_some h;refine cC 0 (laws_eqNatBook_c hx15) ?_;clear hx15;(conv=>whnf);refine andI h (fun _ h=>?_) (fun _ h=>?_)
              · (conv=>whnf);obtain rfl:=Option.some.inj h;exact lfP []
              · (conv=>whnf);obtain ⟨x16,hx16,h⟩:=bd_some h;refine callW 0 (laws_heldNatBook_c hx16) rfl argA rfl ?_;(conv=>whnf);refine seq_in tOk ?_;(conv=>whnf);refine andI h (fun _ h=>?_) (fun _ h=>?_)
                · (conv=>whnf);obtain rfl:=Option.some.inj h;exact lfP []
                · (conv=>whnf);refine seq_in tOk ?_;(conv=>whnf);refine andI h (fun _ h=>?_) (fun _ h=>?_)
                  · (conv=>whnf);obtain rfl:=Option.some.inj h;exact lfP []
                  · (conv=>whnf);obtain rfl:=Option.some.inj h;exact lfP []
end Go.Proofs.Ytejhbiefhpgjeaa
