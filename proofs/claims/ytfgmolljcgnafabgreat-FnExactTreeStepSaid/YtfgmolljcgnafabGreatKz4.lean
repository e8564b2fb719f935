/-
  What some of the program's functions compute: their models, and that the functions compute these; no condition.
-/
import Derived.Test.YtfgmolljcgnafabGreatTyz
import Derived.Test.YtfgmolljcgnafabGreatTbz
import Derived.Test.YtfgmolljcgnafabGreatAbz7
import Derived.Test.YtfgmolljcgnafabGreatKz3
set_option linter.all false
namespace Go.Proofs.YtfgmolljcgnafabGreat
open Go Go.Ab
set_option maxRecDepth 100000
set_option maxHeartbeats 40000000
noncomputable def laws_markTreeWordS_m (a0:(List TreeWord)) (a1:Int):Option (Int × (List TreeWord)) :=
 bd (lp (σ:=List TreeWord × Int × Int) (β:=(Int × (List TreeWord) × Nat)) (fun s1 =>
(if (decide (s1.2.2<((s1.1.length:Nat):Int))) = true then
 gd ((0:Int)≤s1.2.2∧s1.2.2<((s1.1.length:Nat):Int)) <|
 bd (some (s1.1.set s1.2.2.toNat (⟨s1.2.1,(s1.1.getD s1.2.2.toNat default).End,((s1.1.getD s1.2.2.toNat default).Vector)⟩:TreeWord))) fun x6 =>
 gd ((0:Int)≤s1.2.2∧s1.2.2<((s1.1.length:Nat):Int)) <|
 bd (some (x6.set s1.2.2.toNat (⟨(x6.getD s1.2.2.toNat default).Link,IntKind.i64.wrap (s1.2.1+1),((x6.getD s1.2.2.toNat default).Vector)⟩:TreeWord))) fun x8 =>
 gd ((0:Int)≤s1.2.2∧s1.2.2<((s1.1.length:Nat):Int)) <|
 bd (some (x8.set s1.2.2.toNat ({ (x8.getD s1.2.2.toNat default) with Vector:={ ((x8.getD s1.2.2.toNat default).Vector) with Root:=IntKind.i64.wrap ((IntKind.i64.wrap (s1.2.1+1))+1) } }))) fun x10 =>
 gd ((0:Int)≤s1.2.2∧s1.2.2<((s1.1.length:Nat):Int)) <|
 bd (some (x10.set s1.2.2.toNat ({ (x10.getD s1.2.2.toNat default) with Vector:={ ((x10.getD s1.2.2.toNat default).Vector) with Cost:=IntKind.i64.wrap ((IntKind.i64.wrap ((IntKind.i64.wrap (s1.2.1+1))+1))+1) } }))) fun x12 =>
 gd ((0:Int)≤s1.2.2∧s1.2.2<((s1.1.length:Nat):Int)) <|
 bd (some (x12.set s1.2.2.toNat ({ (x12.getD s1.2.2.toNat default) with Vector:={ ((x12.getD s1.2.2.toNat default).Vector) with Age:=IntKind.i64.wrap ((IntKind.i64.wrap ((IntKind.i64.wrap ((IntKind.i64.wrap (s1.2.1+1))+1))+1))+1) } }))) fun x14 =>
 some (.inl (x14,IntKind.i64.wrap ((IntKind.i64.wrap ((IntKind.i64.wrap ((IntKind.i64.wrap ((IntKind.i64.wrap (s1.2.1+1))+1))+1))+1))+1),IntKind.i64.wrap (s1.2.2+1)))
else
 some (.inr (s1.2.1,s1.1,s1.1.length)))) (a0,a1,0)) fun x4 =>
 gd (x4.2.2 = a0.length) <|
 some (x4.1,x4.2.1)
theorem laws_markTreeWordS_c {a0:(List TreeWord)} {a1:Int} {r:Int × (List TreeWord)} (h:laws_markTreeWordS_m a0 a1 = some r):EffC Tryz.prog 60 [.osl 9000 0 a0.length,.d (.int .i64 a1)] [(9000,.arr 107 5 a0.length (rows TreeWord.enc a0))] (.d (.int .i64 r.1)) [(9000,.arr 107 5 a0.length (rows TreeWord.enc r.2))]:=by
  refine effC_x tOk (fn:=Tryz.f60) (c:=codeOf Tryz.f60) rfl rfl ?_;unfold laws_markTreeWordS_m at h;(conv=>whnf);refine seq_in tOk ?_;(conv=>whnf);obtain ⟨x4,hx4,h⟩:=bd_some h;refine loop_m tOk hx4 (fun s1=>⟨0,51,[(0,.osl 9000 0 s1.1.length),(1,.d (.int .i64 s1.2.1)),(5,.d (.int .i64 s1.2.2))],[],[(9000,.arr 107 5 s1.1.length (rows TreeWord.enc s1.1))],[⟨[(0,.osl 9000 0 s1.1.length)],[]⟩]⟩) ?_ ?_
  · exact leX []
  · clear hx4;intro s1 y2 g3 hy2;(conv=>whnf);refine seq_in tOk ?_;(conv=>whnf);refine andI g3 (fun _ g3=>?_) (fun _ g3=>?_)
    · (conv=>whnf);refine seq_in tOk ?_;(conv=>whnf);refine gdI g3 (fun g3=>?_);(conv=>whnf);obtain ⟨x6,hx6,hlx6,g3⟩:=bd_set g3;refine setS (enc:=TreeWord.enc) hx6 ?_;(conv=>whnf);refine gdI g3 (fun g3=>?_);(conv=>whnf);obtain ⟨x8,hx8,hlx8,g3⟩:=bd_set g3;refine setS (enc:=TreeWord.enc) hx8 ?_;(conv=>whnf);refine gdI g3 (fun g3=>?_);(conv=>whnf);obtain ⟨x10,hx10,hlx10,g3⟩:=bd_set g3;refine setS (enc:=TreeWord.enc) hx10 ?_;(conv=>whnf);refine gdI g3 (fun g3=>?_);(conv=>whnf);obtain ⟨x12,hx12,hlx12,g3⟩:=bd_set g3;refine setS (enc:=TreeWord.enc) hx12 ?_;(conv=>whnf);refine gdI g3 (fun g3=>?_);(conv=>whnf);obtain ⟨x14,hx14,hlx14,g3⟩:=bd_set g3;refine setS (enc:=TreeWord.enc) hx14 ?_;(conv=>whnf);obtain rfl:=Option.some.inj g3;exact ⟨_,rfl,leX []⟩
    · (conv=>whnf);obtain rfl:=Option.some.inj g3;obtain rfl:=hy2 _ rfl;obtain ⟨g16,h⟩:=gd_some h;obtain rfl:=Option.some.inj h;exact lfE []
noncomputable def laws_markTreeWorld_m (a0:TreeWorld) (a1:Int):Option (Int × TreeWorld) :=
 bd (laws_markTreeBridgeS_m a0.Bridges a1) fun x1 =>
 gd (x1.2.length = a0.Bridges.length) <|
 bd (laws_markTreeLinkS_m a0.Links x1.1) fun x2 =>
 gd (x2.2.length = a0.Links.length) <|
 bd (laws_markIntS_m a0.Down x2.1) fun x3 =>
 gd (x3.2.length = a0.Down.length) <|
 bd (laws_markTreeSlotS_m a0.AtA x3.1) fun x4 =>
 gd (x4.2.length = a0.AtA.length) <|
 bd (laws_markTreeSlotS_m a0.AtB x4.1) fun x5 =>
 gd (x5.2.length = a0.AtB.length) <|
 bd (laws_markTreeWordS_m a0.Radio x5.1) fun x6 =>
 gd (x6.2.length = a0.Radio.length) <|
 some (x6.1,(⟨x1.2,x2.2,x3.2,x4.2,x5.2,x6.2⟩:TreeWorld))
theorem laws_markTreeWorld_c {a0:TreeWorld} {a1:Int} {r:Int × TreeWorld} (h:laws_markTreeWorld_m a0 a1 = some r):EffC Tryz.prog 18 [.agg [.osl 9000 0 a0.Bridges.length,.osl 9001 0 a0.Links.length,.osl 9002 0 a0.Down.length,.osl 9003 0 a0.AtA.length,.osl 9004 0 a0.AtB.length,.osl 9005 0 a0.Radio.length],.d (.int .i64 a1)] [(9000,.arr 42 6 a0.Bridges.length (rows TreeBridge.enc a0.Bridges)),(9001,.arr 66 3 a0.Links.length (rows TreeLink.enc a0.Links)),(9002,.arr 3 1 a0.Down.length (rows encInt a0.Down)),(9003,.arr 113 4 a0.AtA.length (rows TreeSlot.enc a0.AtA)),(9004,.arr 113 4 a0.AtB.length (rows TreeSlot.enc a0.AtB)),(9005,.arr 107 5 a0.Radio.length (rows TreeWord.enc a0.Radio))] (.d (.int .i64 r.1)) [(9000,.arr 42 6 a0.Bridges.length (rows TreeBridge.enc r.2.Bridges)),(9001,.arr 66 3 a0.Links.length (rows TreeLink.enc r.2.Links)),(9002,.arr 3 1 a0.Down.length (rows encInt r.2.Down)),(9003,.arr 113 4 a0.AtA.length (rows TreeSlot.enc r.2.AtA)),(9004,.arr 113 4 a0.AtB.length (rows TreeSlot.enc r.2.AtB)),(9005,.arr 107 5 a0.Radio.length (rows TreeWord.enc r.2.Radio))]:=by
  refine effC_x tOk (fn:=Tryz.f18) (c:=codeOf Tryz.f18) rfl rfl ?_;unfold laws_markTreeWorld_m at h;(conv=>whnf);obtain ⟨x1,hx1,h⟩:=bd_some h;obtain ⟨g12,h⟩:=gd_some h;refine cE [(9000,9000)] 0 (laws_markTreeBridgeS_c hx1) ?_;(conv=>whnf);obtain ⟨x2,hx2,h⟩:=bd_some h;obtain ⟨g11,h⟩:=gd_some h;refine cE [(9000,9001)] 0 (laws_markTreeLinkS_c hx2) ?_;(conv=>whnf);obtain ⟨x3,hx3,h⟩:=bd_some h;obtain ⟨g10,h⟩:=gd_some h;refine cE [(9000,9002)] 0 (laws_markIntS_c hx3) ?_;(conv=>whnf);obtain ⟨x4,hx4,h⟩:=bd_some h;obtain ⟨g9,h⟩:=gd_some h;refine cE [(9000,9003)] 0 (laws_markTreeSlotS_c hx4) ?_;(conv=>whnf);obtain ⟨x5,hx5,h⟩:=bd_some h;obtain ⟨g8,h⟩:=gd_some h;refine cE [(9000,9004)] 0 (laws_markTreeSlotS_c hx5) ?_;(conv=>whnf);obtain ⟨x6,hx6,h⟩:=bd_some h;obtain ⟨g7,h⟩:=gd_some h;refine cE [(9000,9005)] 0 (laws_markTreeWordS_c hx6) ?_;(conv=>whnf);obtain rfl:=Option.some.inj h;exact lfE []
noncomputable def laws_heldTreeBridgeS_m (a0:(List TreeBridge)) (a1:Int):Option (Int) :=
 bd (lp (σ:=Int × Int) (β:=(Unit ⊕ Int)) (fun s1 =>
(if (decide (s1.2<((a0.length:Nat):Int))) = true then
 gd ((0:Int)≤s1.2∧s1.2<((a0.length:Nat):Int)) <|
(if (((a0.getD s1.2.toNat default).Id) != s1.1) = true then
 some (.inr (.inl ()))
else
 gd ((0:Int)≤s1.2∧s1.2<((a0.length:Nat):Int)) <|
 gd ((3:Int) ≠ 0) <|
(if (!(((a0.getD s1.2.toNat default).Up) == (((IntKind.i64.wrap (s1.1+1):Int).tmod 3) == 0))) = true then
 some (.inr (.inl ()))
else
 gd ((0:Int)≤s1.2∧s1.2<((a0.length:Nat):Int)) <|
(if (((((a0.getD s1.2.toNat default).Mind).Vector).Root) != (IntKind.i64.wrap ((IntKind.i64.wrap (s1.1+1))+1))) = true then
 some (.inr (.inl ()))
else
 gd ((0:Int)≤s1.2∧s1.2<((a0.length:Nat):Int)) <|
(if (((((a0.getD s1.2.toNat default).Mind).Vector).Cost) != (IntKind.i64.wrap ((IntKind.i64.wrap ((IntKind.i64.wrap (s1.1+1))+1))+1))) = true then
 some (.inr (.inl ()))
else
 gd ((0:Int)≤s1.2∧s1.2<((a0.length:Nat):Int)) <|
(if (((((a0.getD s1.2.toNat default).Mind).Vector).Age) != (IntKind.i64.wrap ((IntKind.i64.wrap ((IntKind.i64.wrap ((IntKind.i64.wrap (s1.1+1))+1))+1))+1))) = true then
 some (.inr (.inl ()))
else
 gd ((0:Int)≤s1.2∧s1.2<((a0.length:Nat):Int)) <|
(if ((((a0.getD s1.2.toNat default).Mind).Link) != (IntKind.i64.wrap ((IntKind.i64.wrap ((IntKind.i64.wrap ((IntKind.i64.wrap ((IntKind.i64.wrap (s1.1+1))+1))+1))+1))+1))) = true then
 some (.inr (.inl ()))
else
 some (.inl (IntKind.i64.wrap ((IntKind.i64.wrap ((IntKind.i64.wrap ((IntKind.i64.wrap ((IntKind.i64.wrap ((IntKind.i64.wrap (s1.1+1))+1))+1))+1))+1))+1),IntKind.i64.wrap (s1.2+1)))))))))
else
 some (.inr (.inr s1.1)))) (a1,0)) fun x4 =>
(match x4 with
| .inl d12 =>
 some (-1)
| .inr d13 =>
 some d13)
theorem laws_heldTreeBridgeS_c {a0:(List TreeBridge)} {a1:Int} {r:Int} (h:laws_heldTreeBridgeS_m a0 a1 = some r):PureC Tryz.prog 61 [.d (slD TreeBridge.enc a0),.d (.int .i64 a1)] (.d (.int .i64 r)) []:=by
  refine pureC_x tOk (fn:=Tryz.f61) (c:=codeOf Tryz.f61) rfl rfl ?_;unfold laws_heldTreeBridgeS_m at h;(conv=>whnf);refine seq_in tOk ?_;(conv=>whnf);obtain ⟨x4,hx4,h⟩:=bd_some h;refine loop_m tOk hx4 (fun s1=>⟨0,76,[(0,.d (slD TreeBridge.enc a0)),(1,.d (.int .i64 s1.1)),(5,.d (.int .i64 s1.2))],[],[],[]⟩) ?_ ?_
  · exact leX []
  · clear hx4;intro s1 y2 g3 hy2;(conv=>whnf);refine seq_in tOk ?_;(conv=>whnf);refine andI g3 (fun _ g3=>?_) (fun _ g3=>?_)
    · (conv=>whnf);refine seq_in tOk ?_;(conv=>whnf);refine seq_in tOk ?_;(conv=>whnf);refine gdI g3 (fun g3=>?_);(conv=>whnf);refine andI g3 (fun _ g3=>?_) (fun _ g3=>?_)
      · (conv=>whnf);obtain rfl:=Option.some.inj g3;obtain rfl:=hy2 _ rfl;obtain rfl:=Option.some.inj h;exact lfP []
      · (conv=>whnf);refine seq_in tOk ?_;(conv=>whnf);refine gdI g3 (fun g3=>?_);(conv=>whnf);refine gdI g3 (fun g3=>?_);(conv=>whnf);refine andI g3 (fun _ g3=>?_) (fun _ g3=>?_)
        · (conv=>whnf);obtain rfl:=Option.some.inj g3;obtain rfl:=hy2 _ rfl;obtain rfl:=Option.some.inj h;exact lfP []
        · (conv=>whnf);refine seq_in tOk ?_;(conv=>whnf);refine gdI g3 (fun g3=>?_);(conv=>whnf);refine andI g3 (fun _ g3=>?_) (fun _ g3=>?_)
          · (conv=>whnf);obtain rfl:=Option.some.inj g3;obtain rfl:=hy2 _ rfl;obtain rfl:=Option.some.inj h;exact lfP []
          · (conv=>whnf);refine seq_in tOk ?_;(conv=>whnf);refine gdI g3 (fun g3=>?_);(conv=>whnf);refine andI g3 (fun _ g3=>?_) (fun _ g3=>?_)
            · (conv=>whnf);obtain rfl:=Option.some.inj g3;obtain rfl:=hy2 _ rfl;obtain rfl:=Option.some.inj h;exact lfP []
            · (conv=>whnf);refine seq_in tOk ?_;(conv=>whnf);refine gdI g3 (fun g3=>?_);(conv=>whnf);refine andI g3 (fun _ g3=>?_) (fun _ g3=>?_)
              · (conv=>whnf);obtain rfl:=Option.some.inj g3;obtain rfl:=hy2 _ rfl;obtain rfl:=Option.some.inj h;exact lfP []
              · (conv=>whnf);refine seq_in tOk ?_;(conv=>whnf);refine gdI g3 (fun g3=>?_);(conv=>whnf);refine andI g3 (fun _ g3=>?_) (fun _ g3=>?_)
                · (conv=>whnf);obtain rfl:=Option.some.inj g3;obtain rfl:=hy2 _ rfl;obtain rfl:=Option.some.inj h;exact lfP []
                · (conv=>whnf);obtain rfl:=Option.some.inj g3;exact ⟨_,rfl,leX []⟩
    · (conv=>whnf);obtain rfl:=Option.some.inj g3;obtain rfl:=hy2 _ rfl;obtain rfl:=Option.some.inj h;exact lfP []
noncomputable def laws_heldTreeLinkS_m (a0:(List TreeLink)) (a1:Int):Option (Int) :=
 bd (lp (σ:=Int × Int) (β:=(Unit ⊕ Int)) (fun s1 =>
(if (decide (s1.2<((a0.length:Nat):Int))) = true then
 gd ((0:Int)≤s1.2∧s1.2<((a0.length:Nat):Int)) <|
(if (((a0.getD s1.2.toNat default).A) != s1.1) = true then
 some (.inr (.inl ()))
else
 gd ((0:Int)≤s1.2∧s1.2<((a0.length:Nat):Int)) <|
(if (((a0.getD s1.2.toNat default).B) != (IntKind.i64.wrap (s1.1+1))) = true then
 some (.inr (.inl ()))
else
 gd ((0:Int)≤s1.2∧s1.2<((a0.length:Nat):Int)) <|
(if (((a0.getD s1.2.toNat default).Cost) != (IntKind.i64.wrap ((IntKind.i64.wrap (s1.1+1))+1))) = true then
 some (.inr (.inl ()))
else
 some (.inl (IntKind.i64.wrap ((IntKind.i64.wrap ((IntKind.i64.wrap (s1.1+1))+1))+1),IntKind.i64.wrap (s1.2+1))))))
else
 some (.inr (.inr s1.1)))) (a1,0)) fun x4 =>
(match x4 with
| .inl d8 =>
 some (-1)
| .inr d9 =>
 some d9)
theorem laws_heldTreeLinkS_c {a0:(List TreeLink)} {a1:Int} {r:Int} (h:laws_heldTreeLinkS_m a0 a1 = some r):PureC Tryz.prog 62 [.d (slD TreeLink.enc a0),.d (.int .i64 a1)] (.d (.int .i64 r)) []:=by
  refine pureC_x tOk (fn:=Tryz.f62) (c:=codeOf Tryz.f62) rfl rfl ?_;unfold laws_heldTreeLinkS_m at h;(conv=>whnf);refine seq_in tOk ?_;(conv=>whnf);obtain ⟨x4,hx4,h⟩:=bd_some h;refine loop_m tOk hx4 (fun s1=>⟨0,40,[(0,.d (slD TreeLink.enc a0)),(1,.d (.int .i64 s1.1)),(5,.d (.int .i64 s1.2))],[],[],[]⟩) ?_ ?_
  · exact leX []
  · clear hx4;intro s1 y2 g3 hy2;(conv=>whnf);refine seq_in tOk ?_;(conv=>whnf);refine andI g3 (fun _ g3=>?_) (fun _ g3=>?_)
    · (conv=>whnf);refine seq_in tOk ?_;(conv=>whnf);refine seq_in tOk ?_;(conv=>whnf);refine gdI g3 (fun g3=>?_);(conv=>whnf);refine andI g3 (fun _ g3=>?_) (fun _ g3=>?_)
      · (conv=>whnf);obtain rfl:=Option.some.inj g3;obtain rfl:=hy2 _ rfl;obtain rfl:=Option.some.inj h;exact lfP []
      · (conv=>whnf);refine seq_in tOk ?_;(conv=>whnf);refine gdI g3 (fun g3=>?_);(conv=>whnf);refine andI g3 (fun _ g3=>?_) (fun _ g3=>?_)
        · (conv=>whnf);obtain rfl:=Option.some.inj g3;obtain rfl:=hy2 _ rfl;obtain rfl:=Option.some.inj h;exact lfP []
        · (conv=>whnf);refine seq_in tOk ?_;(conv=>whnf);refine gdI g3 (fun g3=>?_);(conv=>whnf);refine andI g3 (fun _ g3=>?_) (fun _ g3=>?_)
          · (conv=>whnf);obtain rfl:=Option.some.inj g3;obtain rfl:=hy2 _ rfl;obtain rfl:=Option.some.inj h;exact lfP []
          · (conv=>whnf);obtain rfl:=Option.some.inj g3;exact ⟨_,rfl,leX []⟩
    · (conv=>whnf);obtain rfl:=Option.some.inj g3;obtain rfl:=hy2 _ rfl;obtain rfl:=Option.some.inj h;exact lfP []
noncomputable def laws_heldIntS_m (a0:(List Int)) (a1:Int):Option (Int) :=
 bd (lp (σ:=Int × Int) (β:=(Unit ⊕ Int)) (fun s1 =>
(if (decide (s1.2<((a0.length:Nat):Int))) = true then
 gd ((0:Int)≤s1.2∧s1.2<((a0.length:Nat):Int)) <|
(if ((a0.getD s1.2.toNat default) != s1.1) = true then
 some (.inr (.inl ()))
else
 some (.inl (IntKind.i64.wrap (s1.1+1),IntKind.i64.wrap (s1.2+1))))
else
 some (.inr (.inr s1.1)))) (a1,0)) fun x4 =>
(match x4 with
| .inl d6 =>
 some (-1)
| .inr d7 =>
 some d7)
theorem laws_heldIntS_c {a0:(List Int)} {a1:Int} {r:Int} (h:laws_heldIntS_m a0 a1 = some r):PureC Tryz.prog 63 [.d (slD encInt a0),.d (.int .i64 a1)] (.d (.int .i64 r)) []:=by
  refine pureC_x tOk (fn:=Tryz.f63) (c:=codeOf Tryz.f63) rfl rfl ?_;unfold laws_heldIntS_m at h;(conv=>whnf);refine seq_in tOk ?_;(conv=>whnf);obtain ⟨x4,hx4,h⟩:=bd_some h;refine loop_m tOk hx4 (fun s1=>⟨0,21,[(0,.d (slD encInt a0)),(1,.d (.int .i64 s1.1)),(5,.d (.int .i64 s1.2))],[],[],[]⟩) ?_ ?_
  · exact leX []
  · clear hx4;intro s1 y2 g3 hy2;(conv=>whnf);refine seq_in tOk ?_;(conv=>whnf);refine andI g3 (fun _ g3=>?_) (fun _ g3=>?_)
    · (conv=>whnf);refine seq_in tOk ?_;(conv=>whnf);refine seq_in tOk ?_;(conv=>whnf);refine gdI g3 (fun g3=>?_);(conv=>whnf);refine andI g3 (fun _ g3=>?_) (fun _ g3=>?_)
      · (conv=>whnf);obtain rfl:=Option.some.inj g3;obtain rfl:=hy2 _ rfl;obtain rfl:=Option.some.inj h;exact lfP []
      · (conv=>whnf);obtain rfl:=Option.some.inj g3;exact ⟨_,rfl,leX []⟩
    · (conv=>whnf);obtain rfl:=Option.some.inj g3;obtain rfl:=hy2 _ rfl;obtain rfl:=Option.some.inj h;exact lfP []
noncomputable def laws_heldTreeSlotS_m (a0:(List TreeSlot)) (a1:Int):Option (Int) :=
 bd (lp (σ:=Int × Int) (β:=(Unit ⊕ Int)) (fun s1 =>
(if (decide (s1.2<((a0.length:Nat):Int))) = true then
 gd ((0:Int)≤s1.2∧s1.2<((a0.length:Nat):Int)) <|
(if ((((a0.getD s1.2.toNat default).Vector).Root) != s1.1) = true then
 some (.inr (.inl ()))
else
 gd ((0:Int)≤s1.2∧s1.2<((a0.length:Nat):Int)) <|
(if ((((a0.getD s1.2.toNat default).Vector).Cost) != (IntKind.i64.wrap (s1.1+1))) = true then
 some (.inr (.inl ()))
else
 gd ((0:Int)≤s1.2∧s1.2<((a0.length:Nat):Int)) <|
(if ((((a0.getD s1.2.toNat default).Vector).Age) != (IntKind.i64.wrap ((IntKind.i64.wrap (s1.1+1))+1))) = true then
 some (.inr (.inl ()))
else
 gd ((0:Int)≤s1.2∧s1.2<((a0.length:Nat):Int)) <|
(if (((a0.getD s1.2.toNat default).Left) != (IntKind.i64.wrap ((IntKind.i64.wrap ((IntKind.i64.wrap (s1.1+1))+1))+1))) = true then
 some (.inr (.inl ()))
else
 some (.inl (IntKind.i64.wrap ((IntKind.i64.wrap ((IntKind.i64.wrap ((IntKind.i64.wrap (s1.1+1))+1))+1))+1),IntKind.i64.wrap (s1.2+1)))))))
else
 some (.inr (.inr s1.1)))) (a1,0)) fun x4 =>
(match x4 with
| .inl d9 =>
 some (-1)
| .inr d10 =>
 some d10)
theorem laws_heldTreeSlotS_c {a0:(List TreeSlot)} {a1:Int} {r:Int} (h:laws_heldTreeSlotS_m a0 a1 = some r):PureC Tryz.prog 64 [.d (slD TreeSlot.enc a0),.d (.int .i64 a1)] (.d (.int .i64 r)) []:=by
  refine pureC_x tOk (fn:=Tryz.f64) (c:=codeOf Tryz.f64) rfl rfl ?_;unfold laws_heldTreeSlotS_m at h;(conv=>whnf);refine seq_in tOk ?_;(conv=>whnf);obtain ⟨x4,hx4,h⟩:=bd_some h;refine loop_m tOk hx4 (fun s1=>⟨0,52,[(0,.d (slD TreeSlot.enc a0)),(1,.d (.int .i64 s1.1)),(5,.d (.int .i64 s1.2))],[],[],[]⟩) ?_ ?_
  · exact leX []
  · clear hx4;intro s1 y2 g3 hy2;(conv=>whnf);refine seq_in tOk ?_;(conv=>whnf);refine andI g3 (fun _ g3=>?_) (fun _ g3=>?_)
    · (conv=>whnf);refine seq_in tOk ?_;(conv=>whnf);refine seq_in tOk ?_;(conv=>whnf);refine gdI g3 (fun g3=>?_);(conv=>whnf);refine andI g3 (fun _ g3=>?_) (fun _ g3=>?_)
      · (conv=>whnf);obtain rfl:=Option.some.inj g3;obtain rfl:=hy2 _ rfl;obtain rfl:=Option.some.inj h;exact lfP []
      · (conv=>whnf);refine seq_in tOk ?_;(conv=>whnf);refine gdI g3 (fun g3=>?_);(conv=>whnf);refine andI g3 (fun _ g3=>?_) (fun _ g3=>?_)
        · (conv=>whnf);obtain rfl:=Option.some.inj g3;obtain rfl:=hy2 _ rfl;obtain rfl:=Option.some.inj h;exact lfP []
        · (conv=>whnf);refine seq_in tOk ?_;(conv=>whnf);refine gdI g3 (fun g3=>?_);(conv=>whnf);refine andI g3 (fun _ g3=>?_) (fun _ g3=>?_)
          · (conv=>whnf);obtain rfl:=Option.some.inj g3;obtain rfl:=hy2 _ rfl;obtain rfl:=Option.some.inj h;exact lfP []
          · (conv=>whnf);refine seq_in tOk ?_;(conv=>whnf);refine gdI g3 (fun g3=>?_);(conv=>whnf);refine andI g3 (fun _ g3=>?_) (fun _ g3=>?_)
            · (conv=>whnf);obtain rfl:=Option.some.inj g3;obtain rfl:=hy2 _ rfl;obtain rfl:=Option.some.inj h;exact lfP []
            · (conv=>whnf);obtain rfl:=Option.some.inj g3;exact ⟨_,rfl,leX []⟩
    · (conv=>whnf);obtain rfl:=Option.some.inj g3;obtain rfl:=hy2 _ rfl;obtain rfl:=Option.some.inj h;exact lfP []
noncomputable def laws_heldTreeWordS_m (a0:(List TreeWord)) (a1:Int):Option (Int) :=
 bd (lp (σ:=Int × Int) (β:=(Unit ⊕ Int)) (fun s1 =>
(if (decide (s1.2<((a0.length:Nat):Int))) = true then
 gd ((0:Int)≤s1.2∧s1.2<((a0.length:Nat):Int)) <|
(if (((a0.getD s1.2.toNat default).Link) != s1.1) = true then
 some (.inr (.inl ()))
else
 gd ((0:Int)≤s1.2∧s1.2<((a0.length:Nat):Int)) <|
(if (((a0.getD s1.2.toNat default).End) != (IntKind.i64.wrap (s1.1+1))) = true then
 some (.inr (.inl ()))
else
 gd ((0:Int)≤s1.2∧s1.2<((a0.length:Nat):Int)) <|
(if ((((a0.getD s1.2.toNat default).Vector).Root) != (IntKind.i64.wrap ((IntKind.i64.wrap (s1.1+1))+1))) = true then
 some (.inr (.inl ()))
else
 gd ((0:Int)≤s1.2∧s1.2<((a0.length:Nat):Int)) <|
(if ((((a0.getD s1.2.toNat default).Vector).Cost) != (IntKind.i64.wrap ((IntKind.i64.wrap ((IntKind.i64.wrap (s1.1+1))+1))+1))) = true then
 some (.inr (.inl ()))
else
 gd ((0:Int)≤s1.2∧s1.2<((a0.length:Nat):Int)) <|
(if ((((a0.getD s1.2.toNat default).Vector).Age) != (IntKind.i64.wrap ((IntKind.i64.wrap ((IntKind.i64.wrap ((IntKind.i64.wrap (s1.1+1))+1))+1))+1))) = true then
 some (.inr (.inl ()))
else
 some (.inl (IntKind.i64.wrap ((IntKind.i64.wrap ((IntKind.i64.wrap ((IntKind.i64.wrap ((IntKind.i64.wrap (s1.1+1))+1))+1))+1))+1),IntKind.i64.wrap (s1.2+1))))))))
else
 some (.inr (.inr s1.1)))) (a1,0)) fun x4 =>
(match x4 with
| .inl d10 =>
 some (-1)
| .inr d11 =>
 some d11)
theorem laws_heldTreeWordS_c {a0:(List TreeWord)} {a1:Int} {r:Int} (h:laws_heldTreeWordS_m a0 a1 = some r):PureC Tryz.prog 65 [.d (slD TreeWord.enc a0),.d (.int .i64 a1)] (.d (.int .i64 r)) []:=by
  refine pureC_x tOk (fn:=Tryz.f65) (c:=codeOf Tryz.f65) rfl rfl ?_;unfold laws_heldTreeWordS_m at h;(conv=>whnf);refine seq_in tOk ?_;(conv=>whnf);obtain ⟨x4,hx4,h⟩:=bd_some h;refine loop_m tOk hx4 (fun s1=>⟨0,61,[(0,.d (slD TreeWord.enc a0)),(1,.d (.int .i64 s1.1)),(5,.d (.int .i64 s1.2))],[],[],[]⟩) ?_ ?_
  · exact leX []
  · clear hx4;intro s1 y2 g3 hy2;(conv=>whnf);refine seq_in tOk ?_;(conv=>whnf);refine andI g3 (fun _ g3=>?_) (fun _ g3=>?_)
    · (conv=>whnf);refine seq_in tOk ?_;(conv=>whnf);refine seq_in tOk ?_;(conv=>whnf);refine gdI g3 (fun g3=>?_);(conv=>whnf);refine andI g3 (fun _ g3=>?_) (fun _ g3=>?_)
      · (conv=>whnf);obtain rfl:=Option.some.inj g3;obtain rfl:=hy2 _ rfl;obtain rfl:=Option.some.inj h;exact lfP []
      · (conv=>whnf);refine seq_in tOk ?_;(conv=>whnf);refine gdI g3 (fun g3=>?_);(conv=>whnf);refine andI g3 (fun _ g3=>?_) (fun _ g3=>?_)
        · (conv=>whnf);obtain rfl:=Option.some.inj g3;obtain rfl:=hy2 _ rfl;obtain rfl:=Option.some.inj h;exact lfP []
        · (conv=>whnf);refine seq_in tOk ?_;(conv=>whnf);refine gdI g3 (fun g3=>?_);(conv=>whnf);refine andI g3 (fun _ g3=>?_) (fun _ g3=>?_)
          · (conv=>whnf);obtain rfl:=Option.some.inj g3;obtain rfl:=hy2 _ rfl;obtain rfl:=Option.some.inj h;exact lfP []
          · (conv=>whnf);refine seq_in tOk ?_;(conv=>whnf);refine gdI g3 (fun g3=>?_);(conv=>whnf);refine andI g3 (fun _ g3=>?_) (fun _ g3=>?_)
            · (conv=>whnf);obtain rfl:=Option.some.inj g3;obtain rfl:=hy2 _ rfl;obtain rfl:=Option.some.inj h;exact lfP []
            · (conv=>whnf);refine seq_in tOk ?_;(conv=>whnf);refine gdI g3 (fun g3=>?_);(conv=>whnf);refine andI g3 (fun _ g3=>?_) (fun _ g3=>?_)
              · (conv=>whnf);obtain rfl:=Option.some.inj g3;obtain rfl:=hy2 _ rfl;obtain rfl:=Option.some.inj h;exact lfP []
              · (conv=>whnf);obtain rfl:=Option.some.inj g3;exact ⟨_,rfl,leX []⟩
    · (conv=>whnf);obtain rfl:=Option.some.inj g3;obtain rfl:=hy2 _ rfl;obtain rfl:=Option.some.inj h;exact lfP []
noncomputable def laws_heldTreeWorld_m (a0:TreeWorld) (a1:Int):Option (Int) :=
 bd (laws_heldTreeBridgeS_m a0.Bridges a1) fun x1 =>
(if (decide (x1<0)) = true then
 some (-1)
else
 bd (laws_heldTreeLinkS_m a0.Links x1) fun x2 =>
(if (decide (x2<0)) = true then
 some (-1)
else
 bd (laws_heldIntS_m a0.Down x2) fun x3 =>
(if (decide (x3<0)) = true then
 some (-1)
else
 bd (laws_heldTreeSlotS_m a0.AtA x3) fun x4 =>
(if (decide (x4<0)) = true then
 some (-1)
else
 bd (laws_heldTreeSlotS_m a0.AtB x4) fun x5 =>
(if (decide (x5<0)) = true then
 some (-1)
else
 bd (laws_heldTreeWordS_m a0.Radio x5) fun x6 =>
(if (decide (x6<0)) = true then
 some (-1)
else
 some x6))))))
theorem laws_heldTreeWorld_c {a0:TreeWorld} {a1:Int} {r:Int} (h:laws_heldTreeWorld_m a0 a1 = some r):PureC Tryz.prog 19 [.agg [.d (slD TreeBridge.enc a0.Bridges),.d (slD TreeLink.enc a0.Links),.d (slD encInt a0.Down),.d (slD TreeSlot.enc a0.AtA),.d (slD TreeSlot.enc a0.AtB),.d (slD TreeWord.enc a0.Radio)],.d (.int .i64 a1)] (.d (.int .i64 r)) []:=by
  refine pureC_x tOk (fn:=Tryz.f19) (c:=codeOf Tryz.f19) rfl rfl ?_;unfold laws_heldTreeWorld_m at h;(conv=>whnf);obtain ⟨x1,hx1,h⟩:=bd_some h;refine cC 0 (laws_heldTreeBridgeS_c hx1) ?_;clear hx1;(conv=>whnf);refine seq_in tOk ?_;(conv=>whnf);refine andI h (fun _ h=>?_) (fun _ h=>?_)
  · (conv=>whnf);obtain rfl:=Option.some.inj h;exact lfP []
  · (conv=>whnf);obtain ⟨x2,hx2,h⟩:=bd_some h;refine cC 0 (laws_heldTreeLinkS_c hx2) ?_;clear hx2;(conv=>whnf);refine seq_in tOk ?_;(conv=>whnf);refine andI h (fun _ h=>?_) (fun _ h=>?_)
    · (conv=>whnf);obtain rfl:=Option.some.inj h;exact lfP []
    · (conv=>whnf);obtain ⟨x3,hx3,h⟩:=bd_some h;refine cC 0 (laws_heldIntS_c hx3) ?_;clear hx3;(conv=>whnf);refine seq_in tOk ?_;(conv=>whnf);refine andI h (fun _ h=>?_) (fun _ h=>?_)
      · (conv=>whnf);obtain rfl:=Option.some.inj h;exact lfP []
      · (conv=>whnf);obtain ⟨x4,hx4,h⟩:=bd_some h;refine cC 0 (laws_heldTreeSlotS_c hx4) ?_;clear hx4;(conv=>whnf);refine seq_in tOk ?_;(conv=>whnf);refine andI h (fun _ h=>?_) (fun _ h=>?_)
        · (conv=>whnf);obtain rfl:=Option.some.inj h;exact lfP []
        · (conv=>whnf);obtain ⟨x5,hx5,h⟩:=bd_some h;refine cC 0 (laws_heldTreeSlotS_c hx5) ?_;clear hx5;(conv=>whnf);refine seq_in tOk ?_;(conv=>whnf);refine andI h (fun _ h=>?_) (fun _ h=>?_)
          · (conv=>whnf);obtain rfl:=Option.some.inj h;exact lfP []
          · (conv=>whnf);obtain ⟨x6,hx6,h⟩:=bd_some h;refine cC 0 (laws_heldTreeWordS_c hx6) ?_;clear hx6;(conv=>whnf);refine seq_in tOk ?_;(conv=>whnf);refine andI h (fun _ h=>?_) (fun _ h=>?_)
            · (conv=>whnf);obtain rfl:=Option.some.inj h;exact lfP []
            · (conv=>whnf);obtain rfl:=Option.some.inj h;exact lfP []
noncomputable def laws_FnExactTreeStep_m (a0:TreeWorld) (a1:TreeEvent):Option (Bool) :=
 bd (laws_szTreeWorld_m a0 1048576) fun x1 =>
(if (decide (x1<0)) = true then
 some true
else
 bd (laws_toTreeWorld_m a0) fun x2 =>
 bd (laws_toTreeEvent_m a1) fun x3 =>
 bd (spec_TreeStep_m x2 x3) fun x4 =>
 bd (laws_toTreeWorld_m a0) fun x5 =>
 bd (laws_toTreeEvent_m a1) fun x6 =>
 bd (impl_TreeStep_pu_o00_01_02_03_04_05_m x5 x6) fun x7 =>
 bd (laws_eqTreeWorld_m x7 x4) fun x8 =>
(if (!x8) = true then
 some false
else
 bd (laws_toTreeWorld_m a0) fun x9 =>
 bd (laws_eqTreeWorld_m x5 x9) fun x10 =>
(if (!x10) = true then
 some false
else
 bd (laws_markTreeWorld_m x5 1) fun x11 =>
 gd (x11.2.Bridges.length = x5.Bridges.length) <|
 gd (x11.2.Links.length = x5.Links.length) <|
 gd (x11.2.Down.length = x5.Down.length) <|
 gd (x11.2.AtA.length = x5.AtA.length) <|
 gd (x11.2.AtB.length = x5.AtB.length) <|
 gd (x11.2.Radio.length = x5.Radio.length) <|
 bd (gcall ((decide (x11.1<0)) = false) (laws_eqTreeWorld_m x7 x4)) fun x12 =>
(if ((decide (x11.1<0)) || (!x12)) = true then
 some false
else
 bd (laws_markTreeWorld_m x7 1) fun x13 =>
 gd (x13.2.Bridges.length = x7.Bridges.length) <|
 gd (x13.2.Links.length = x7.Links.length) <|
 gd (x13.2.Down.length = x7.Down.length) <|
 gd (x13.2.AtA.length = x7.AtA.length) <|
 gd (x13.2.AtB.length = x7.AtB.length) <|
 gd (x13.2.Radio.length = x7.Radio.length) <|
 bd (laws_heldTreeWorld_m x13.2 1) fun x14 =>
(if (decide (x14<0)) = true then
 some false
else
(if (x14 != x13.1) = true then
 some false
else
 bd (laws_toTreeWorld_m a0) fun x15 =>
 bd (laws_toTreeEvent_m a1) fun x16 =>
 bd (impl_TreeStep_pu_o00_01_02_03_04_05_m x15 x16) fun x17 =>
 bd (laws_eqTreeWorld_m x17 x4) fun x18 =>
(if (!x18) = true then
 some false
else
 bd (laws_heldTreeWorld_m x13.2 1) fun x19 =>
(if (decide (x19<0)) = true then
 some false
else
(if (x19 != x13.1) = true then
 some false
else
 some true)))))))))
theorem laws_FnExactTreeStep_c {a0:TreeWorld} {a1:TreeEvent} {r:Bool} (h:laws_FnExactTreeStep_m a0 a1 = some r):PureC Tryz.prog 4 [.agg [.d (slD TreeBridge.enc a0.Bridges),.d (slD TreeLink.enc a0.Links),.d (slD encInt a0.Down),.d (slD TreeSlot.enc a0.AtA),.d (slD TreeSlot.enc a0.AtB),.d (slD TreeWord.enc a0.Radio)],.agg [.d (.int .i64 a1.Kind),.d (.int .i64 a1.At),.d (.int .i64 a1.End)]] (.d (.bool r)) []:=by
  refine pureC_x tOk (fn:=Tryz.f4) (c:=codeOf Tryz.f4) rfl rfl ?_;unfold laws_FnExactTreeStep_m at h;(conv=>whnf);obtain ⟨x1,hx1,h⟩:=bd_some h;refine cC 0 (laws_szTreeWorld_c hx1) ?_;clear hx1;(conv=>whnf);refine seq_in tOk ?_;(conv=>whnf);refine andI h (fun _ h=>?_) (fun _ h=>?_)
  · (conv=>whnf);obtain rfl:=Option.some.inj h;exact lfP []
  · (conv=>whnf);obtain ⟨x2,hx2,h⟩:=bd_some h;obtain ⟨x3,hx3,h⟩:=bd_some h;obtain ⟨x4,hx4,h⟩:=bd_some h;refine draw_u tOk [.u 1 1000 (.agg [.osl 5001 0 x2.Bridges.length,.osl 5002 0 x2.Links.length,.osl 5003 0 x2.Down.length,.osl 5004 0 x2.AtA.length,.osl 5005 0 x2.AtB.length,.osl 5006 0 x2.Radio.length]) [⟨5001,42,6,x2.Bridges.length,rows TreeBridge.enc x2.Bridges⟩,⟨5002,66,3,x2.Links.length,rows TreeLink.enc x2.Links⟩,⟨5003,3,1,x2.Down.length,rows encInt x2.Down⟩,⟨5004,113,4,x2.AtA.length,rows TreeSlot.enc x2.AtA⟩,⟨5005,113,4,x2.AtB.length,rows TreeSlot.enc x2.AtB⟩,⟨5006,107,5,x2.Radio.length,rows TreeWord.enc x2.Radio⟩],.u 3 0 (.agg [.d (.int .i64 x3.Kind),.d (.int .i64 x3.At),.d (.int .i64 x3.End)]) [],.u 4 2000 (.agg [.osl 5001 0 x4.Bridges.length,.osl 5002 0 x4.Links.length,.osl 5003 0 x4.Down.length,.osl 5004 0 x4.AtA.length,.osl 5005 0 x4.AtB.length,.osl 5006 0 x4.Radio.length]) [⟨5001,42,6,x4.Bridges.length,rows TreeBridge.enc x4.Bridges⟩,⟨5002,66,3,x4.Links.length,rows TreeLink.enc x4.Links⟩,⟨5003,3,1,x4.Down.length,rows encInt x4.Down⟩,⟨5004,113,4,x4.AtA.length,rows TreeSlot.enc x4.AtA⟩,⟨5005,113,4,x4.AtB.length,rows TreeSlot.enc x4.AtB⟩,⟨5006,107,5,x4.Radio.length,rows TreeWord.enc x4.Radio⟩]] 6 [] [0,1,0,7,15,0] [63] ?_;(conv=>whnf);refine And.intro (callD_any (laws_toTreeWorld_c hx2) (by kernel_rfl)) ?_;(conv=>whnf);refine And.intro (callD_any (laws_toTreeEvent_c hx3) (by kernel_rfl)) ?_;(conv=>whnf);refine And.intro (callD_any (spec_TreeStep_c hx4) (by kernel_rfl)) ?_;(conv=>whnf);refine And.intro (by kernel_rfl) ?_;(conv=>whnf);obtain ⟨x5,hx5,h⟩:=bd_some h;refine cC 3000 (laws_toTreeWorld_c hx5) ?_;clear hx5;(conv=>whnf);obtain ⟨x6,hx6,h⟩:=bd_some h;obtain ⟨x7,hx7,h⟩:=bd_some h;refine draw_u tOk [.u 2 0 (.agg [.d (.int .i64 x6.Kind),.d (.int .i64 x6.At),.d (.int .i64 x6.End)]) [],.u 3 4000 (.agg [.osl 5001 0 x7.Bridges.length,.osl 5002 0 x7.Links.length,.osl 5003 0 x7.Down.length,.osl 5004 0 x7.AtA.length,.osl 5005 0 x7.AtB.length,.osl 5006 0 x7.Radio.length]) [⟨5001,42,6,x7.Bridges.length,rows TreeBridge.enc x7.Bridges⟩,⟨5002,66,3,x7.Links.length,rows TreeLink.enc x7.Links⟩,⟨5003,3,1,x7.Down.length,rows encInt x7.Down⟩,⟨5004,113,4,x7.AtA.length,rows TreeSlot.enc x7.AtA⟩,⟨5005,113,4,x7.AtB.length,rows TreeSlot.enc x7.AtB⟩,⟨5006,107,5,x7.Radio.length,rows TreeWord.enc x7.Radio⟩]] 5 [] [0,0,2,7,0] [31] ?_;(conv=>whnf);refine And.intro (callD_any (laws_toTreeEvent_c hx6) (by kernel_rfl)) ?_;(conv=>whnf);refine And.intro (callD_any (impl_TreeStep_pu_o00_01_02_03_04_05_c hx7) (by kernel_rfl)) ?_;(conv=>whnf);refine And.intro (by kernel_rfl) ?_;(conv=>whnf);refine seq_in tOk ?_;(conv=>whnf);obtain ⟨x8,hx8,h⟩:=bd_some h;refine cC 0 (laws_eqTreeWorld_c hx8) ?_;clear hx8;(conv=>whnf);refine andI h (fun _ h=>?_) (fun _ h=>?_)
    · (conv=>whnf);obtain rfl:=Option.some.inj h;exact lfP []
    · (conv=>whnf);refine seq_in tOk ?_;(conv=>whnf);obtain ⟨x9,hx9,h⟩:=bd_some h;obtain ⟨x10,hx10,h⟩:=bd_some h;refine draw_u tOk [.u 2 5000 (.agg [.osl 5001 0 x9.Bridges.length,.osl 5002 0 x9.Links.length,.osl 5003 0 x9.Down.length,.osl 5004 0 x9.AtA.length,.osl 5005 0 x9.AtB.length,.osl 5006 0 x9.Radio.length]) [⟨5001,42,6,x9.Bridges.length,rows TreeBridge.enc x9.Bridges⟩,⟨5002,66,3,x9.Links.length,rows TreeLink.enc x9.Links⟩,⟨5003,3,1,x9.Down.length,rows encInt x9.Down⟩,⟨5004,113,4,x9.AtA.length,rows TreeSlot.enc x9.AtA⟩,⟨5005,113,4,x9.AtB.length,rows TreeSlot.enc x9.AtB⟩,⟨5006,107,5,x9.Radio.length,rows TreeWord.enc x9.Radio⟩],.u 3 0 (.d (.bool x10)) []] 5 [] [0,0,2,7,15] [] ?_;(conv=>whnf);refine And.intro (callD_any (laws_toTreeWorld_c hx9) (by kernel_rfl)) ?_;(conv=>whnf);refine And.intro (callD_any (laws_eqTreeWorld_c hx10) (by kernel_rfl)) ?_;(conv=>whnf);refine And.intro (by kernel_rfl) ?_;(conv=>whnf);refine andI h (fun _ h=>?_) (fun _ h=>?_)
      · (conv=>whnf);obtain rfl:=Option.some.inj h;exact lfP []
      · (conv=>whnf);obtain ⟨x11,hx11,h⟩:=bd_some h;obtain ⟨g26,h⟩:=gd_some h;obtain ⟨g27,h⟩:=gd_some h;obtain ⟨g28,h⟩:=gd_some h;obtain ⟨g29,h⟩:=gd_some h;obtain ⟨g30,h⟩:=gd_some h;obtain ⟨g31,h⟩:=gd_some h;refine cE2 [(9000,8001),(9001,8002),(9002,8003),(9003,8004),(9004,8005),(9005,8006)] 0 (laws_markTreeWorld_c hx11) ?_;(conv=>whnf);refine seq_in tOk ?_;(conv=>whnf);obtain ⟨x12,hx12,h⟩:=bd_some h;refine cG (fun c0=>laws_eqTreeWorld_c (gcall_some hx12 c0)) ?_;(conv=>whnf);refine andI h (fun _ h=>?_) (fun _ h=>?_)
        · (conv=>whnf);obtain rfl:=Option.some.inj h;exact lfP []
        · (conv=>whnf);obtain ⟨x13,hx13,h⟩:=bd_some h;obtain ⟨g20,h⟩:=gd_some h;obtain ⟨g21,h⟩:=gd_some h;obtain ⟨g22,h⟩:=gd_some h;obtain ⟨g23,h⟩:=gd_some h;obtain ⟨g24,h⟩:=gd_some h;obtain ⟨g25,h⟩:=gd_some h;refine cE2 [(9000,9001),(9001,9002),(9002,9003),(9003,9004),(9004,9005),(9005,9006)] 0 (laws_markTreeWorld_c hx13) ?_;(conv=>whnf);obtain ⟨x14,hx14,h⟩:=bd_some h;refine callW (args1:=[.agg [.d (.sl x7.Bridges.length (rows TreeBridge.enc x13.2.Bridges)),.d (.sl x7.Links.length (rows TreeLink.enc x13.2.Links)),.d (.sl x7.Down.length (rows encInt x13.2.Down)),.d (.sl x7.AtA.length (rows TreeSlot.enc x13.2.AtA)),.d (.sl x7.AtB.length (rows TreeSlot.enc x13.2.AtB)),.d (.sl x7.Radio.length (rows TreeWord.enc x13.2.Radio))],.d (.int .i64 1)]) 0 (laws_heldTreeWorld_c hx14) (by kernel_rfl) argA (by kernel_rfl) ?_;(conv=>whnf);refine seq_in tOk ?_;(conv=>whnf);refine andI h (fun _ h=>?_) (fun _ h=>?_)
          · (conv=>whnf);obtain rfl:=Option.some.inj h;exact lfP []
          · (conv=>whnf);refine seq_in tOk ?_;(conv=>whnf);refine andI h (fun _ h=>?_) (fun _ h=>?_)
            · (conv=>whnf);obtain rfl:=Option.some.inj h;exact lfP []
            · (conv=>whnf);obtain ⟨x15,hx15,h⟩:=bd_some h;obtain ⟨x16,hx16,h⟩:=bd_some h;obtain ⟨x17,hx17,h⟩:=bd_some h;refine draw_u tOk [.u 1 6000 (.agg [.osl 5001 0 x15.Bridges.length,.osl 5002 0 x15.Links.length,.osl 5003 0 x15.Down.length,.osl 5004 0 x15.AtA.length,.osl 5005 0 x15.AtB.length,.osl 5006 0 x15.Radio.length]) [⟨5001,42,6,x15.Bridges.length,rows TreeBridge.enc x15.Bridges⟩,⟨5002,66,3,x15.Links.length,rows TreeLink.enc x15.Links⟩,⟨5003,3,1,x15.Down.length,rows encInt x15.Down⟩,⟨5004,113,4,x15.AtA.length,rows TreeSlot.enc x15.AtA⟩,⟨5005,113,4,x15.AtB.length,rows TreeSlot.enc x15.AtB⟩,⟨5006,107,5,x15.Radio.length,rows TreeWord.enc x15.Radio⟩],.u 3 0 (.agg [.d (.int .i64 x16.Kind),.d (.int .i64 x16.At),.d (.int .i64 x16.End)]) [],.u 4 7000 (.agg [.osl 5001 0 x17.Bridges.length,.osl 5002 0 x17.Links.length,.osl 5003 0 x17.Down.length,.osl 5004 0 x17.AtA.length,.osl 5005 0 x17.AtB.length,.osl 5006 0 x17.Radio.length]) [⟨5001,42,6,x17.Bridges.length,rows TreeBridge.enc x17.Bridges⟩,⟨5002,66,3,x17.Links.length,rows TreeLink.enc x17.Links⟩,⟨5003,3,1,x17.Down.length,rows encInt x17.Down⟩,⟨5004,113,4,x17.AtA.length,rows TreeSlot.enc x17.AtA⟩,⟨5005,113,4,x17.AtB.length,rows TreeSlot.enc x17.AtB⟩,⟨5006,107,5,x17.Radio.length,rows TreeWord.enc x17.Radio⟩]] 6 [] [0,1,0,7,15,0] [63] ?_;(conv=>whnf);refine And.intro (callD_any (laws_toTreeWorld_c hx15) (by kernel_rfl)) ?_;(conv=>whnf);refine And.intro (callD_any (laws_toTreeEvent_c hx16) (by kernel_rfl)) ?_;(conv=>whnf);refine And.intro (callD_any (impl_TreeStep_pu_o00_01_02_03_04_05_c hx17) (by kernel_rfl)) ?_;(conv=>whnf);refine And.intro (by kernel_rfl) ?_;(conv=>whnf);refine seq_in tOk ?_;(conv=>whnf);obtain ⟨x18,hx18,h⟩:=bd_some h;refine cC 0 (laws_eqTreeWorld_c hx18) ?_;clear hx18;(conv=>whnf);refine andI h (fun _ h=>?_) (fun _ h=>?_)
              · (conv=>whnf);obtain rfl:=Option.some.inj h;exact lfP []
              · (conv=>whnf);obtain ⟨x19,hx19,h⟩:=bd_some h;refine callW (args1:=[.agg [.d (.sl x7.Bridges.length (rows TreeBridge.enc x13.2.Bridges)),.d (.sl x7.Links.length (rows TreeLink.enc x13.2.Links)),.d (.sl x7.Down.length (rows encInt x13.2.Down)),.d (.sl x7.AtA.length (rows TreeSlot.enc x13.2.AtA)),.d (.sl x7.AtB.length (rows TreeSlot.enc x13.2.AtB)),.d (.sl x7.Radio.length (rows TreeWord.enc x13.2.Radio))],.d (.int .i64 1)]) 0 (laws_heldTreeWorld_c hx19) (by kernel_rfl) argA (by kernel_rfl) ?_;(conv=>whnf);refine seq_in tOk ?_;(conv=>whnf);refine andI h (fun _ h=>?_) (fun _ h=>?_)
                · (conv=>whnf);obtain rfl:=Option.some.inj h;exact lfP []
                · (conv=>whnf);refine seq_in tOk ?_;(conv=>whnf);refine andI h (fun _ h=>?_) (fun _ h=>?_)
                  · (conv=>whnf);obtain rfl:=Option.some.inj h;exact lfP []
                  · (conv=>whnf);obtain rfl:=Option.some.inj h;exact lfP []
end Go.Proofs.YtfgmolljcgnafabGreat
