/-
  What some of the program's functions compute: their models, and that the functions compute these; no condition.
-/
import Derived.Test.YtfgmolljcgnafabGreatTyz
import Derived.Test.YtfgmolljcgnafabGreatTbz
import Derived.Test.YtfgmolljcgnafabGreatAbz7
set_option linter.all false
namespace Go.Proofs.YtfgmolljcgnafabGreat
open Go Go.Ab
set_option maxRecDepth 100000
set_option maxHeartbeats 40000000
noncomputable def laws_szTreeBridgeS_m (a0:(List TreeBridge)) (a1:Int):Option (Int) :=
(if (decide ((IntKind.i64.wrap (a1 - ((a0.length:Nat):Int)))<0)) = true then
 some (-1)
else
 some (IntKind.i64.wrap (a1 - ((a0.length:Nat):Int))))
theorem laws_szTreeBridgeS_c {a0:(List TreeBridge)} {a1:Int} {r:Int} (h:laws_szTreeBridgeS_m a0 a1 = some r):PureC Tryz.prog 38 [.d (slD TreeBridge.enc a0),.d (.int .i64 a1)] (.d (.int .i64 r)) []:=by
  refine pureC_x tOk (fn:=Tryz.f38) (c:=codeOf Tryz.f38) rfl rfl ?_;unfold laws_szTreeBridgeS_m at h;(conv=>whnf);refine seq_in tOk ?_;(conv=>whnf);refine andI h (fun _ h=>?_) (fun _ h=>?_)
  · (conv=>whnf);obtain rfl:=Option.some.inj h;exact lfP []
  · (conv=>whnf);obtain rfl:=Option.some.inj h;exact lfP []
noncomputable def laws_szTreeLinkS_m (a0:(List TreeLink)) (a1:Int):Option (Int) :=
(if (decide ((IntKind.i64.wrap (a1 - ((a0.length:Nat):Int)))<0)) = true then
 some (-1)
else
 some (IntKind.i64.wrap (a1 - ((a0.length:Nat):Int))))
theorem laws_szTreeLinkS_c {a0:(List TreeLink)} {a1:Int} {r:Int} (h:laws_szTreeLinkS_m a0 a1 = some r):PureC Tryz.prog 39 [.d (slD TreeLink.enc a0),.d (.int .i64 a1)] (.d (.int .i64 r)) []:=by
  refine pureC_x tOk (fn:=Tryz.f39) (c:=codeOf Tryz.f39) rfl rfl ?_;unfold laws_szTreeLinkS_m at h;(conv=>whnf);refine seq_in tOk ?_;(conv=>whnf);refine andI h (fun _ h=>?_) (fun _ h=>?_)
  · (conv=>whnf);obtain rfl:=Option.some.inj h;exact lfP []
  · (conv=>whnf);obtain rfl:=Option.some.inj h;exact lfP []
noncomputable def laws_szIntS_m (a0:(List Int)) (a1:Int):Option (Int) :=
(if (decide ((IntKind.i64.wrap (a1 - ((a0.length:Nat):Int)))<0)) = true then
 some (-1)
else
 some (IntKind.i64.wrap (a1 - ((a0.length:Nat):Int))))
theorem laws_szIntS_c {a0:(List Int)} {a1:Int} {r:Int} (h:laws_szIntS_m a0 a1 = some r):PureC Tryz.prog 40 [.d (slD encInt a0),.d (.int .i64 a1)] (.d (.int .i64 r)) []:=by
  refine pureC_x tOk (fn:=Tryz.f40) (c:=codeOf Tryz.f40) rfl rfl ?_;unfold laws_szIntS_m at h;(conv=>whnf);refine seq_in tOk ?_;(conv=>whnf);refine andI h (fun _ h=>?_) (fun _ h=>?_)
  · (conv=>whnf);obtain rfl:=Option.some.inj h;exact lfP []
  · (conv=>whnf);obtain rfl:=Option.some.inj h;exact lfP []
noncomputable def laws_szTreeSlotS_m (a0:(List TreeSlot)) (a1:Int):Option (Int) :=
(if (decide ((IntKind.i64.wrap (a1 - ((a0.length:Nat):Int)))<0)) = true then
 some (-1)
else
 some (IntKind.i64.wrap (a1 - ((a0.length:Nat):Int))))
theorem laws_szTreeSlotS_c {a0:(List TreeSlot)} {a1:Int} {r:Int} (h:laws_szTreeSlotS_m a0 a1 = some r):PureC Tryz.prog 41 [.d (slD TreeSlot.enc a0),.d (.int .i64 a1)] (.d (.int .i64 r)) []:=by
  refine pureC_x tOk (fn:=Tryz.f41) (c:=codeOf Tryz.f41) rfl rfl ?_;unfold laws_szTreeSlotS_m at h;(conv=>whnf);refine seq_in tOk ?_;(conv=>whnf);refine andI h (fun _ h=>?_) (fun _ h=>?_)
  · (conv=>whnf);obtain rfl:=Option.some.inj h;exact lfP []
  · (conv=>whnf);obtain rfl:=Option.some.inj h;exact lfP []
noncomputable def laws_szTreeWordS_m (a0:(List TreeWord)) (a1:Int):Option (Int) :=
(if (decide ((IntKind.i64.wrap (a1 - ((a0.length:Nat):Int)))<0)) = true then
 some (-1)
else
 some (IntKind.i64.wrap (a1 - ((a0.length:Nat):Int))))
theorem laws_szTreeWordS_c {a0:(List TreeWord)} {a1:Int} {r:Int} (h:laws_szTreeWordS_m a0 a1 = some r):PureC Tryz.prog 42 [.d (slD TreeWord.enc a0),.d (.int .i64 a1)] (.d (.int .i64 r)) []:=by
  refine pureC_x tOk (fn:=Tryz.f42) (c:=codeOf Tryz.f42) rfl rfl ?_;unfold laws_szTreeWordS_m at h;(conv=>whnf);refine seq_in tOk ?_;(conv=>whnf);refine andI h (fun _ h=>?_) (fun _ h=>?_)
  · (conv=>whnf);obtain rfl:=Option.some.inj h;exact lfP []
  · (conv=>whnf);obtain rfl:=Option.some.inj h;exact lfP []
noncomputable def laws_szTreeWorld_m (a0:TreeWorld) (a1:Int):Option (Int) :=
 bd (laws_szTreeBridgeS_m a0.Bridges a1) fun x1 =>
(if (decide (x1<0)) = true then
 some (-1)
else
 bd (laws_szTreeLinkS_m a0.Links x1) fun x2 =>
(if (decide (x2<0)) = true then
 some (-1)
else
 bd (laws_szIntS_m a0.Down x2) fun x3 =>
(if (decide (x3<0)) = true then
 some (-1)
else
 bd (laws_szTreeSlotS_m a0.AtA x3) fun x4 =>
(if (decide (x4<0)) = true then
 some (-1)
else
 bd (laws_szTreeSlotS_m a0.AtB x4) fun x5 =>
(if (decide (x5<0)) = true then
 some (-1)
else
 bd (laws_szTreeWordS_m a0.Radio x5) fun x6 =>
(if (decide (x6<0)) = true then
 some (-1)
else
 some x6))))))
theorem laws_szTreeWorld_c {a0:TreeWorld} {a1:Int} {r:Int} (h:laws_szTreeWorld_m a0 a1 = some r):PureC Tryz.prog 13 [.agg [.d (slD TreeBridge.enc a0.Bridges),.d (slD TreeLink.enc a0.Links),.d (slD encInt a0.Down),.d (slD TreeSlot.enc a0.AtA),.d (slD TreeSlot.enc a0.AtB),.d (slD TreeWord.enc a0.Radio)],.d (.int .i64 a1)] (.d (.int .i64 r)) []:=by
  refine pureC_x tOk (fn:=Tryz.f13) (c:=codeOf Tryz.f13) rfl rfl ?_;unfold laws_szTreeWorld_m at h;(conv=>whnf);obtain ⟨x1,hx1,h⟩:=bd_some h;refine cC 0 (laws_szTreeBridgeS_c hx1) ?_;clear hx1;(conv=>whnf);refine seq_in tOk ?_;(conv=>whnf);refine andI h (fun _ h=>?_) (fun _ h=>?_)
  · (conv=>whnf);obtain rfl:=Option.some.inj h;exact lfP []
  · (conv=>whnf);obtain ⟨x2,hx2,h⟩:=bd_some h;refine cC 0 (laws_szTreeLinkS_c hx2) ?_;clear hx2;(conv=>whnf);refine seq_in tOk ?_;(conv=>whnf);refine andI h (fun _ h=>?_) (fun _ h=>?_)
    · (conv=>whnf);obtain rfl:=Option.some.inj h;exact lfP []
    · (conv=>whnf);obtain ⟨x3,hx3,h⟩:=bd_some h;refine cC 0 (laws_szIntS_c hx3) ?_;clear hx3;(conv=>whnf);refine seq_in tOk ?_;(conv=>whnf);refine andI h (fun _ h=>?_) (fun _ h=>?_)
      · (conv=>whnf);obtain rfl:=Option.some.inj h;exact lfP []
      · (conv=>whnf);obtain ⟨x4,hx4,h⟩:=bd_some h;refine cC 0 (laws_szTreeSlotS_c hx4) ?_;clear hx4;(conv=>whnf);refine seq_in tOk ?_;(conv=>whnf);refine andI h (fun _ h=>?_) (fun _ h=>?_)
        · (conv=>whnf);obtain rfl:=Option.some.inj h;exact lfP []
        · (conv=>whnf);obtain ⟨x5,hx5,h⟩:=bd_some h;refine cC 0 (laws_szTreeSlotS_c hx5) ?_;clear hx5;(conv=>whnf);refine seq_in tOk ?_;(conv=>whnf);refine andI h (fun _ h=>?_) (fun _ h=>?_)
          · (conv=>whnf);obtain rfl:=Option.some.inj h;exact lfP []
          · (conv=>whnf);obtain ⟨x6,hx6,h⟩:=bd_some h;refine cC 0 (laws_szTreeWordS_c hx6) ?_;clear hx6;(conv=>whnf);refine seq_in tOk ?_;(conv=>whnf);refine andI h (fun _ h=>?_) (fun _ h=>?_)
            · (conv=>whnf);obtain rfl:=Option.some.inj h;exact lfP []
            · (conv=>whnf);obtain rfl:=Option.some.inj h;exact lfP []
noncomputable def laws_toTreeVector_m (a0:TreeVector):Option (TreeVector) :=
 some a0
theorem laws_toTreeVector_c {a0:TreeVector} {r:TreeVector} (h:laws_toTreeVector_m a0 = some r):PureC Tryz.prog 143 [.agg [.d (.int .i64 a0.Root),.d (.int .i64 a0.Cost),.d (.int .i64 a0.Age)]] (.agg [.d (.int .i64 r.Root),.d (.int .i64 r.Cost),.d (.int .i64 r.Age)]) []:=by
  refine pureC_x tOk (fn:=Tryz.f143) (c:=codeOf Tryz.f143) rfl rfl ?_;unfold laws_toTreeVector_m at h;(conv=>whnf);obtain rfl:=Option.some.inj h;exact lfP []
noncomputable def laws_toTreeMind_m (a0:TreeMind):Option (TreeMind) :=
 bd (laws_toTreeVector_m a0.Vector) fun x1 =>
 some (⟨x1,a0.Link⟩:TreeMind)
theorem laws_toTreeMind_c {a0:TreeMind} {r:TreeMind} (h:laws_toTreeMind_m a0 = some r):PureC Tryz.prog 142 [.agg [.d (.int .i64 a0.Vector.Root),.d (.int .i64 a0.Vector.Cost),.d (.int .i64 a0.Vector.Age),.d (.int .i64 a0.Link)]] (.agg [.d (.int .i64 r.Vector.Root),.d (.int .i64 r.Vector.Cost),.d (.int .i64 r.Vector.Age),.d (.int .i64 r.Link)]) []:=by
  refine pureC_x tOk (fn:=Tryz.f142) (c:=codeOf Tryz.f142) rfl rfl ?_;unfold laws_toTreeMind_m at h;(conv=>whnf);obtain ⟨x1,hx1,h⟩:=bd_some h;refine cC 0 (laws_toTreeVector_c hx1) ?_;clear hx1;(conv=>whnf);obtain rfl:=Option.some.inj h;exact lfP []
noncomputable def laws_toTreeBridge_m (a0:TreeBridge):Option (TreeBridge) :=
 bd (laws_toTreeMind_m a0.Mind) fun x1 =>
 some ({ a0 with Mind:=x1 })
theorem laws_toTreeBridge_c {a0:TreeBridge} {r:TreeBridge} (h:laws_toTreeBridge_m a0 = some r):PureC Tryz.prog 103 [.agg [.d (.int .i64 a0.Id),.d (.bool a0.Up),.d (.int .i64 a0.Mind.Vector.Root),.d (.int .i64 a0.Mind.Vector.Cost),.d (.int .i64 a0.Mind.Vector.Age),.d (.int .i64 a0.Mind.Link)]] (.agg [.d (.int .i64 r.Id),.d (.bool r.Up),.d (.int .i64 r.Mind.Vector.Root),.d (.int .i64 r.Mind.Vector.Cost),.d (.int .i64 r.Mind.Vector.Age),.d (.int .i64 r.Mind.Link)]) []:=by
  refine pureC_x tOk (fn:=Tryz.f103) (c:=codeOf Tryz.f103) rfl rfl ?_;unfold laws_toTreeBridge_m at h;(conv=>whnf);obtain ⟨x1,hx1,h⟩:=bd_some h;refine cC 0 (laws_toTreeMind_c hx1) ?_;clear hx1;(conv=>whnf);obtain rfl:=Option.some.inj h;exact lfP []
noncomputable def laws_toTreeBridgeS_m (a0:(List TreeBridge)):Option ((List TreeBridge)) :=
 gd ((0:Int)≤((a0.length:Nat):Int)∧((a0.length:Nat):Int)≤((a0.length:Nat):Int)∧((a0.length:Nat):Int) * 48≤140737488355328∧((a0.length:Nat):Int)≤140737488355328) <|
 bd (lp (σ:=List TreeBridge × Int) (β:=(Nat × (List TreeBridge))) (fun s1 =>
(if (decide (s1.2<((a0.length:Nat):Int))) = true then
 gd ((0:Int)≤s1.2∧s1.2<((a0.length:Nat):Int)) <|
 bd (laws_toTreeBridge_m ({ (a0.getD s1.2.toNat default) with Mind:=(⟨(((a0.getD s1.2.toNat default).Mind).Vector),((a0.getD s1.2.toNat default).Mind).Link⟩:TreeMind) })) fun x6 =>
 gd ((0:Int)≤s1.2∧s1.2<((s1.1.length:Nat):Int)) <|
 some (.inl (s1.1.set s1.2.toNat x6,IntKind.i64.wrap (s1.2+1)))
else
 some (.inr (s1.1.length,s1.1)))) ((List.replicate (((a0.length:Nat):Int):Int).toNat (default:TreeBridge)),0)) fun x4 =>
 some x4.2
theorem laws_toTreeBridgeS_c {a0:(List TreeBridge)} {r:(List TreeBridge)} (h:laws_toTreeBridgeS_m a0 = some r):PureC Tryz.prog 46 [.d (slD TreeBridge.enc a0)] (.osl 5001 0 r.length) [⟨5001,42,6,r.length,rows TreeBridge.enc r⟩]:=by
  refine pureC_x tOk (fn:=Tryz.f46) (c:=codeOf Tryz.f46) rfl rfl ?_;unfold laws_toTreeBridgeS_m at h;(conv=>whnf);obtain ⟨g9,h⟩:=gd_some h;refine And.intro g9 ?_;clear g9;refine ⟨(List.replicate (((a0.length:Nat):Int):Int).toNat (default:TreeBridge)).length,rows TreeBridge.enc (List.replicate (((a0.length:Nat):Int):Int).toNat (default:TreeBridge)),by simp,make_rows rfl,?_⟩;(conv=>whnf);refine seq_in tOk ?_;(conv=>whnf);obtain ⟨x4,hx4,h⟩:=bd_some h;refine loop_m tOk hx4 (fun s1=>⟨0,23,[(0,.d (slD TreeBridge.enc a0)),(3,.osl 7 0 s1.1.length),(4,.d (.int .i64 s1.2))],[],[(7,.arr 42 6 s1.1.length (rows TreeBridge.enc s1.1))],[]⟩) ?_ ?_
  · exact leX []
  · clear hx4;intro s1 y2 g3 hy2;(conv=>whnf);refine seq_in tOk ?_;(conv=>whnf);refine andI g3 (fun _ g3=>?_) (fun _ g3=>?_)
    · (conv=>whnf);refine seq_in tOk ?_;(conv=>whnf);refine gdI g3 (fun g3=>?_);(conv=>whnf);obtain ⟨x6,hx6,g3⟩:=bd_some g3;refine cC 0 (laws_toTreeBridge_c hx6) ?_;clear hx6;(conv=>whnf);refine gdI g3 (fun g3=>?_);(conv=>whnf);refine ⟨rows TreeBridge.enc (s1.1.set s1.2.toNat x6),store_rows' lenA rfl,?_⟩;(conv=>whnf);obtain rfl:=Option.some.inj g3;exact ⟨_,rfl,leX []⟩
    · (conv=>whnf);obtain rfl:=Option.some.inj g3;obtain rfl:=hy2 _ rfl;obtain rfl:=Option.some.inj h;exact lfP [.s [(7,5001),(5001,7)]]
noncomputable def laws_toTreeLink_m (a0:TreeLink):Option (TreeLink) :=
 some a0
theorem laws_toTreeLink_c {a0:TreeLink} {r:TreeLink} (h:laws_toTreeLink_m a0 = some r):PureC Tryz.prog 104 [.agg [.d (.int .i64 a0.A),.d (.int .i64 a0.B),.d (.int .i64 a0.Cost)]] (.agg [.d (.int .i64 r.A),.d (.int .i64 r.B),.d (.int .i64 r.Cost)]) []:=by
  refine pureC_x tOk (fn:=Tryz.f104) (c:=codeOf Tryz.f104) rfl rfl ?_;unfold laws_toTreeLink_m at h;(conv=>whnf);obtain rfl:=Option.some.inj h;exact lfP []
noncomputable def laws_toTreeLinkS_m (a0:(List TreeLink)):Option ((List TreeLink)) :=
 gd ((0:Int)≤((a0.length:Nat):Int)∧((a0.length:Nat):Int)≤((a0.length:Nat):Int)∧((a0.length:Nat):Int) * 24≤140737488355328∧((a0.length:Nat):Int)≤140737488355328) <|
 bd (lp (σ:=List TreeLink × Int) (β:=(Nat × (List TreeLink))) (fun s1 =>
(if (decide (s1.2<((a0.length:Nat):Int))) = true then
 gd ((0:Int)≤s1.2∧s1.2<((a0.length:Nat):Int)) <|
 bd (laws_toTreeLink_m (a0.getD s1.2.toNat default)) fun x6 =>
 gd ((0:Int)≤s1.2∧s1.2<((s1.1.length:Nat):Int)) <|
 some (.inl (s1.1.set s1.2.toNat x6,IntKind.i64.wrap (s1.2+1)))
else
 some (.inr (s1.1.length,s1.1)))) ((List.replicate (((a0.length:Nat):Int):Int).toNat (default:TreeLink)),0)) fun x4 =>
 some x4.2
theorem laws_toTreeLinkS_c {a0:(List TreeLink)} {r:(List TreeLink)} (h:laws_toTreeLinkS_m a0 = some r):PureC Tryz.prog 47 [.d (slD TreeLink.enc a0)] (.osl 5001 0 r.length) [⟨5001,66,3,r.length,rows TreeLink.enc r⟩]:=by
  refine pureC_x tOk (fn:=Tryz.f47) (c:=codeOf Tryz.f47) rfl rfl ?_;unfold laws_toTreeLinkS_m at h;(conv=>whnf);obtain ⟨g9,h⟩:=gd_some h;refine And.intro g9 ?_;clear g9;refine ⟨(List.replicate (((a0.length:Nat):Int):Int).toNat (default:TreeLink)).length,rows TreeLink.enc (List.replicate (((a0.length:Nat):Int):Int).toNat (default:TreeLink)),by simp,make_rows rfl,?_⟩;(conv=>whnf);refine seq_in tOk ?_;(conv=>whnf);obtain ⟨x4,hx4,h⟩:=bd_some h;refine loop_m tOk hx4 (fun s1=>⟨0,23,[(0,.d (slD TreeLink.enc a0)),(3,.osl 7 0 s1.1.length),(4,.d (.int .i64 s1.2))],[],[(7,.arr 66 3 s1.1.length (rows TreeLink.enc s1.1))],[]⟩) ?_ ?_
  · exact leX []
  · clear hx4;intro s1 y2 g3 hy2;(conv=>whnf);refine seq_in tOk ?_;(conv=>whnf);refine andI g3 (fun _ g3=>?_) (fun _ g3=>?_)
    · (conv=>whnf);refine seq_in tOk ?_;(conv=>whnf);refine gdI g3 (fun g3=>?_);(conv=>whnf);obtain ⟨x6,hx6,g3⟩:=bd_some g3;refine cC 0 (laws_toTreeLink_c hx6) ?_;clear hx6;(conv=>whnf);refine gdI g3 (fun g3=>?_);(conv=>whnf);refine ⟨rows TreeLink.enc (s1.1.set s1.2.toNat x6),store_rows' lenA rfl,?_⟩;(conv=>whnf);obtain rfl:=Option.some.inj g3;exact ⟨_,rfl,leX []⟩
    · (conv=>whnf);obtain rfl:=Option.some.inj g3;obtain rfl:=hy2 _ rfl;obtain rfl:=Option.some.inj h;exact lfP [.s [(7,5001),(5001,7)]]
noncomputable def laws_toIntS_m (a0:(List Int)):Option ((List Int)) :=
 gd ((0:Int)≤((a0.length:Nat):Int)∧((a0.length:Nat):Int)≤((a0.length:Nat):Int)∧((a0.length:Nat):Int) * 8≤140737488355328∧((a0.length:Nat):Int)≤140737488355328) <|
 bd (lp (σ:=List Int × Int) (β:=(Nat × (List Int))) (fun s1 =>
(if (decide (s1.2<((a0.length:Nat):Int))) = true then
 gd ((0:Int)≤s1.2∧s1.2<((a0.length:Nat):Int)) <|
 gd ((0:Int)≤s1.2∧s1.2<((s1.1.length:Nat):Int)) <|
 some (.inl (s1.1.set s1.2.toNat (a0.getD s1.2.toNat default),IntKind.i64.wrap (s1.2+1)))
else
 some (.inr (s1.1.length,s1.1)))) ((List.replicate (((a0.length:Nat):Int):Int).toNat (default:Int)),0)) fun x4 =>
 some x4.2
theorem laws_toIntS_c {a0:(List Int)} {r:(List Int)} (h:laws_toIntS_m a0 = some r):PureC Tryz.prog 48 [.d (slD encInt a0)] (.osl 5001 0 r.length) [⟨5001,3,1,r.length,rows encInt r⟩]:=by
  refine pureC_x tOk (fn:=Tryz.f48) (c:=codeOf Tryz.f48) rfl rfl ?_;unfold laws_toIntS_m at h;(conv=>whnf);obtain ⟨g8,h⟩:=gd_some h;refine And.intro g8 ?_;clear g8;refine ⟨(List.replicate (((a0.length:Nat):Int):Int).toNat (default:Int)).length,rows encInt (List.replicate (((a0.length:Nat):Int):Int).toNat (default:Int)),by simp,make_rows rfl,?_⟩;(conv=>whnf);refine seq_in tOk ?_;(conv=>whnf);obtain ⟨x4,hx4,h⟩:=bd_some h;refine loop_m tOk hx4 (fun s1=>⟨0,22,[(0,.d (slD encInt a0)),(3,.osl 7 0 s1.1.length),(4,.d (.int .i64 s1.2))],[],[(7,.arr 3 1 s1.1.length (rows encInt s1.1))],[]⟩) ?_ ?_
  · exact leX []
  · clear hx4;intro s1 y2 g3 hy2;(conv=>whnf);refine seq_in tOk ?_;(conv=>whnf);refine andI g3 (fun _ g3=>?_) (fun _ g3=>?_)
    · (conv=>whnf);refine seq_in tOk ?_;(conv=>whnf);refine gdI g3 (fun g3=>?_);(conv=>whnf);refine gdI g3 (fun g3=>?_);(conv=>whnf);refine ⟨rows encInt (s1.1.set s1.2.toNat (a0.getD s1.2.toNat default)),store_rows' lenA rfl,?_⟩;(conv=>whnf);obtain rfl:=Option.some.inj g3;exact ⟨_,rfl,leX []⟩
    · (conv=>whnf);obtain rfl:=Option.some.inj g3;obtain rfl:=hy2 _ rfl;obtain rfl:=Option.some.inj h;exact lfP [.s [(7,5001),(5001,7)]]
noncomputable def laws_toTreeSlot_m (a0:TreeSlot):Option (TreeSlot) :=
 bd (laws_toTreeVector_m a0.Vector) fun x1 =>
 some (⟨x1,a0.Left⟩:TreeSlot)
theorem laws_toTreeSlot_c {a0:TreeSlot} {r:TreeSlot} (h:laws_toTreeSlot_m a0 = some r):PureC Tryz.prog 105 [.agg [.d (.int .i64 a0.Vector.Root),.d (.int .i64 a0.Vector.Cost),.d (.int .i64 a0.Vector.Age),.d (.int .i64 a0.Left)]] (.agg [.d (.int .i64 r.Vector.Root),.d (.int .i64 r.Vector.Cost),.d (.int .i64 r.Vector.Age),.d (.int .i64 r.Left)]) []:=by
  refine pureC_x tOk (fn:=Tryz.f105) (c:=codeOf Tryz.f105) rfl rfl ?_;unfold laws_toTreeSlot_m at h;(conv=>whnf);obtain ⟨x1,hx1,h⟩:=bd_some h;refine cC 0 (laws_toTreeVector_c hx1) ?_;clear hx1;(conv=>whnf);obtain rfl:=Option.some.inj h;exact lfP []
noncomputable def laws_toTreeSlotS_m (a0:(List TreeSlot)):Option ((List TreeSlot)) :=
 gd ((0:Int)≤((a0.length:Nat):Int)∧((a0.length:Nat):Int)≤((a0.length:Nat):Int)∧((a0.length:Nat):Int) * 32≤140737488355328∧((a0.length:Nat):Int)≤140737488355328) <|
 bd (lp (σ:=List TreeSlot × Int) (β:=(Nat × (List TreeSlot))) (fun s1 =>
(if (decide (s1.2<((a0.length:Nat):Int))) = true then
 gd ((0:Int)≤s1.2∧s1.2<((a0.length:Nat):Int)) <|
 bd (laws_toTreeSlot_m (⟨((a0.getD s1.2.toNat default).Vector),(a0.getD s1.2.toNat default).Left⟩:TreeSlot)) fun x6 =>
 gd ((0:Int)≤s1.2∧s1.2<((s1.1.length:Nat):Int)) <|
 some (.inl (s1.1.set s1.2.toNat x6,IntKind.i64.wrap (s1.2+1)))
else
 some (.inr (s1.1.length,s1.1)))) ((List.replicate (((a0.length:Nat):Int):Int).toNat (default:TreeSlot)),0)) fun x4 =>
 some x4.2
theorem laws_toTreeSlotS_c {a0:(List TreeSlot)} {r:(List TreeSlot)} (h:laws_toTreeSlotS_m a0 = some r):PureC Tryz.prog 49 [.d (slD TreeSlot.enc a0)] (.osl 5001 0 r.length) [⟨5001,113,4,r.length,rows TreeSlot.enc r⟩]:=by
  refine pureC_x tOk (fn:=Tryz.f49) (c:=codeOf Tryz.f49) rfl rfl ?_;unfold laws_toTreeSlotS_m at h;(conv=>whnf);obtain ⟨g9,h⟩:=gd_some h;refine And.intro g9 ?_;clear g9;refine ⟨(List.replicate (((a0.length:Nat):Int):Int).toNat (default:TreeSlot)).length,rows TreeSlot.enc (List.replicate (((a0.length:Nat):Int):Int).toNat (default:TreeSlot)),by simp,make_rows rfl,?_⟩;(conv=>whnf);refine seq_in tOk ?_;(conv=>whnf);obtain ⟨x4,hx4,h⟩:=bd_some h;refine loop_m tOk hx4 (fun s1=>⟨0,23,[(0,.d (slD TreeSlot.enc a0)),(3,.osl 7 0 s1.1.length),(4,.d (.int .i64 s1.2))],[],[(7,.arr 113 4 s1.1.length (rows TreeSlot.enc s1.1))],[]⟩) ?_ ?_
  · exact leX []
  · clear hx4;intro s1 y2 g3 hy2;(conv=>whnf);refine seq_in tOk ?_;(conv=>whnf);refine andI g3 (fun _ g3=>?_) (fun _ g3=>?_)
    · (conv=>whnf);refine seq_in tOk ?_;(conv=>whnf);refine gdI g3 (fun g3=>?_);(conv=>whnf);obtain ⟨x6,hx6,g3⟩:=bd_some g3;refine cC 0 (laws_toTreeSlot_c hx6) ?_;clear hx6;(conv=>whnf);refine gdI g3 (fun g3=>?_);(conv=>whnf);refine ⟨rows TreeSlot.enc (s1.1.set s1.2.toNat x6),store_rows' lenA rfl,?_⟩;(conv=>whnf);obtain rfl:=Option.some.inj g3;exact ⟨_,rfl,leX []⟩
    · (conv=>whnf);obtain rfl:=Option.some.inj g3;obtain rfl:=hy2 _ rfl;obtain rfl:=Option.some.inj h;exact lfP [.s [(7,5001),(5001,7)]]
noncomputable def laws_toTreeWord_m (a0:TreeWord):Option (TreeWord) :=
 bd (laws_toTreeVector_m a0.Vector) fun x1 =>
 some ({ a0 with Vector:=x1 })
theorem laws_toTreeWord_c {a0:TreeWord} {r:TreeWord} (h:laws_toTreeWord_m a0 = some r):PureC Tryz.prog 106 [.agg [.d (.int .i64 a0.Link),.d (.int .i64 a0.End),.d (.int .i64 a0.Vector.Root),.d (.int .i64 a0.Vector.Cost),.d (.int .i64 a0.Vector.Age)]] (.agg [.d (.int .i64 r.Link),.d (.int .i64 r.End),.d (.int .i64 r.Vector.Root),.d (.int .i64 r.Vector.Cost),.d (.int .i64 r.Vector.Age)]) []:=by
  refine pureC_x tOk (fn:=Tryz.f106) (c:=codeOf Tryz.f106) rfl rfl ?_;unfold laws_toTreeWord_m at h;(conv=>whnf);obtain ⟨x1,hx1,h⟩:=bd_some h;refine cC 0 (laws_toTreeVector_c hx1) ?_;clear hx1;(conv=>whnf);obtain rfl:=Option.some.inj h;exact lfP []
noncomputable def laws_toTreeWordS_m (a0:(List TreeWord)):Option ((List TreeWord)) :=
 gd ((0:Int)≤((a0.length:Nat):Int)∧((a0.length:Nat):Int)≤((a0.length:Nat):Int)∧((a0.length:Nat):Int) * 40≤140737488355328∧((a0.length:Nat):Int)≤140737488355328) <|
 bd (lp (σ:=List TreeWord × Int) (β:=(Nat × (List TreeWord))) (fun s1 =>
(if (decide (s1.2<((a0.length:Nat):Int))) = true then
 gd ((0:Int)≤s1.2∧s1.2<((a0.length:Nat):Int)) <|
 bd (laws_toTreeWord_m ({ (a0.getD s1.2.toNat default) with Vector:=((a0.getD s1.2.toNat default).Vector) })) fun x6 =>
 gd ((0:Int)≤s1.2∧s1.2<((s1.1.length:Nat):Int)) <|
 some (.inl (s1.1.set s1.2.toNat x6,IntKind.i64.wrap (s1.2+1)))
else
 some (.inr (s1.1.length,s1.1)))) ((List.replicate (((a0.length:Nat):Int):Int).toNat (default:TreeWord)),0)) fun x4 =>
 some x4.2
theorem laws_toTreeWordS_c {a0:(List TreeWord)} {r:(List TreeWord)} (h:laws_toTreeWordS_m a0 = some r):PureC Tryz.prog 50 [.d (slD TreeWord.enc a0)] (.osl 5001 0 r.length) [⟨5001,107,5,r.length,rows TreeWord.enc r⟩]:=by
  refine pureC_x tOk (fn:=Tryz.f50) (c:=codeOf Tryz.f50) rfl rfl ?_;unfold laws_toTreeWordS_m at h;(conv=>whnf);obtain ⟨g9,h⟩:=gd_some h;refine And.intro g9 ?_;clear g9;refine ⟨(List.replicate (((a0.length:Nat):Int):Int).toNat (default:TreeWord)).length,rows TreeWord.enc (List.replicate (((a0.length:Nat):Int):Int).toNat (default:TreeWord)),by simp,make_rows rfl,?_⟩;(conv=>whnf);refine seq_in tOk ?_;(conv=>whnf);obtain ⟨x4,hx4,h⟩:=bd_some h;refine loop_m tOk hx4 (fun s1=>⟨0,23,[(0,.d (slD TreeWord.enc a0)),(3,.osl 7 0 s1.1.length),(4,.d (.int .i64 s1.2))],[],[(7,.arr 107 5 s1.1.length (rows TreeWord.enc s1.1))],[]⟩) ?_ ?_
  · exact leX []
  · clear hx4;intro s1 y2 g3 hy2;(conv=>whnf);refine seq_in tOk ?_;(conv=>whnf);refine andI g3 (fun _ g3=>?_) (fun _ g3=>?_)
    · (conv=>whnf);refine seq_in tOk ?_;(conv=>whnf);refine gdI g3 (fun g3=>?_);(conv=>whnf);obtain ⟨x6,hx6,g3⟩:=bd_some g3;refine cC 0 (laws_toTreeWord_c hx6) ?_;clear hx6;(conv=>whnf);refine gdI g3 (fun g3=>?_);(conv=>whnf);refine ⟨rows TreeWord.enc (s1.1.set s1.2.toNat x6),store_rows' lenA rfl,?_⟩;(conv=>whnf);obtain rfl:=Option.some.inj g3;exact ⟨_,rfl,leX []⟩
    · (conv=>whnf);obtain rfl:=Option.some.inj g3;obtain rfl:=hy2 _ rfl;obtain rfl:=Option.some.inj h;exact lfP [.s [(7,5001),(5001,7)]]
noncomputable def laws_toTreeWorld_m (a0:TreeWorld):Option (TreeWorld) :=
 bd (laws_toTreeBridgeS_m a0.Bridges) fun x1 =>
 bd (laws_toTreeLinkS_m a0.Links) fun x2 =>
 bd (laws_toIntS_m a0.Down) fun x3 =>
 bd (laws_toTreeSlotS_m a0.AtA) fun x4 =>
 bd (laws_toTreeSlotS_m a0.AtB) fun x5 =>
 bd (laws_toTreeWordS_m a0.Radio) fun x6 =>
 some (⟨x1,x2,x3,x4,x5,x6⟩:TreeWorld)
theorem laws_toTreeWorld_c {a0:TreeWorld} {r:TreeWorld} (h:laws_toTreeWorld_m a0 = some r):PureC Tryz.prog 15 [.agg [.d (slD TreeBridge.enc a0.Bridges),.d (slD TreeLink.enc a0.Links),.d (slD encInt a0.Down),.d (slD TreeSlot.enc a0.AtA),.d (slD TreeSlot.enc a0.AtB),.d (slD TreeWord.enc a0.Radio)]] (.agg [.osl 5001 0 r.Bridges.length,.osl 5002 0 r.Links.length,.osl 5003 0 r.Down.length,.osl 5004 0 r.AtA.length,.osl 5005 0 r.AtB.length,.osl 5006 0 r.Radio.length]) [⟨5001,42,6,r.Bridges.length,rows TreeBridge.enc r.Bridges⟩,⟨5002,66,3,r.Links.length,rows TreeLink.enc r.Links⟩,⟨5003,3,1,r.Down.length,rows encInt r.Down⟩,⟨5004,113,4,r.AtA.length,rows TreeSlot.enc r.AtA⟩,⟨5005,113,4,r.AtB.length,rows TreeSlot.enc r.AtB⟩,⟨5006,107,5,r.Radio.length,rows TreeWord.enc r.Radio⟩]:=by
  refine pureC_x tOk (fn:=Tryz.f15) (c:=codeOf Tryz.f15) rfl rfl ?_;unfold laws_toTreeWorld_m at h;(conv=>whnf);obtain ⟨x1,hx1,h⟩:=bd_some h;refine cC 1000 (laws_toTreeBridgeS_c hx1) ?_;clear hx1;(conv=>whnf);obtain ⟨x2,hx2,h⟩:=bd_some h;refine cC 2000 (laws_toTreeLinkS_c hx2) ?_;clear hx2;(conv=>whnf);obtain ⟨x3,hx3,h⟩:=bd_some h;refine cC 3000 (laws_toIntS_c hx3) ?_;clear hx3;(conv=>whnf);obtain ⟨x4,hx4,h⟩:=bd_some h;refine cC 4000 (laws_toTreeSlotS_c hx4) ?_;clear hx4;(conv=>whnf);obtain ⟨x5,hx5,h⟩:=bd_some h;refine cC 5000 (laws_toTreeSlotS_c hx5) ?_;clear hx5;(conv=>whnf);obtain ⟨x6,hx6,h⟩:=bd_some h;refine cC 6000 (laws_toTreeWordS_c hx6) ?_;clear hx6;(conv=>whnf);obtain rfl:=Option.some.inj h;exact lfP [.s [(5001,6001),(5002,7001),(5003,8001),(5004,9001),(5005,10001),(5006,11001),(6001,5001),(7001,5002),(8001,5003),(9001,5004),(10001,5005),(11001,5006)]]
noncomputable def laws_toTreeEvent_m (a0:TreeEvent):Option (TreeEvent) :=
 some a0
theorem laws_toTreeEvent_c {a0:TreeEvent} {r:TreeEvent} (h:laws_toTreeEvent_m a0 = some r):PureC Tryz.prog 16 [.agg [.d (.int .i64 a0.Kind),.d (.int .i64 a0.At),.d (.int .i64 a0.End)]] (.agg [.d (.int .i64 r.Kind),.d (.int .i64 r.At),.d (.int .i64 r.End)]) []:=by
  refine pureC_x tOk (fn:=Tryz.f16) (c:=codeOf Tryz.f16) rfl rfl ?_;unfold laws_toTreeEvent_m at h;(conv=>whnf);obtain rfl:=Option.some.inj h;exact lfP []
noncomputable def spec_l81In_m (a0:Int) (a1:Int) (a2:Int):Option (Bool) :=
 some ((decide (a0 ≥ a1)) && (decide (a0≤a2)))
theorem spec_l81In_c {a0:Int} {a1:Int} {a2:Int} {r:Bool} (h:spec_l81In_m a0 a1 a2 = some r):PureC Tryz.prog 130 [.d (.int .i64 a0),.d (.int .i64 a1),.d (.int .i64 a2)] (.d (.bool r)) []:=by
  refine pureC_x tOk (fn:=Tryz.f130) (c:=codeOf Tryz.f130) rfl rfl ?_;unfold spec_l81In_m at h;(conv=>whnf);obtain rfl:=Option.some.inj h;exact lfP []
noncomputable def spec_TreeLinksOk_m (a0:Int) (a1:(List TreeLink)):Option (Bool) :=
 bd (spec_l81In_m a0 1 8) fun x1 =>
(if ((!x1) || (decide (((a1.length:Nat):Int) > 12))) = true then
 some false
else
 bd (lp (σ:=Int) (β:=(Unit ⊕ Unit)) (fun s2 =>
(if (decide (s2<((a1.length:Nat):Int))) = true then
 gd ((0:Int)≤s2∧s2<((a1.length:Nat):Int)) <|
 bd (gcall ((((decide (((a1.getD s2.toNat default).A)<0)) || (decide (((a1.getD s2.toNat default).A) ≥ ((a1.getD s2.toNat default).B)))) || (decide (((a1.getD s2.toNat default).B) ≥ a0))) = false) (spec_l81In_m ((a1.getD s2.toNat default).Cost) 1 50)) fun x7 =>
(if ((((decide (((a1.getD s2.toNat default).A)<0)) || (decide (((a1.getD s2.toNat default).A) ≥ ((a1.getD s2.toNat default).B)))) || (decide (((a1.getD s2.toNat default).B) ≥ a0))) || (!x7)) = true then
 some (.inr (.inl ()))
else
 some (.inl (IntKind.i64.wrap (s2+1))))
else
 some (.inr (.inr ())))) 0) fun x5 =>
(match x5 with
| .inl d8 =>
 some false
| .inr d9 =>
 some true))
theorem spec_TreeLinksOk_c {a0:Int} {a1:(List TreeLink)} {r:Bool} (h:spec_TreeLinksOk_m a0 a1 = some r):PureC Tryz.prog 94 [.d (.int .i64 a0),.d (slD TreeLink.enc a1)] (.d (.bool r)) []:=by
  refine pureC_x tOk (fn:=Tryz.f94) (c:=codeOf Tryz.f94) rfl rfl ?_;unfold spec_TreeLinksOk_m at h;(conv=>whnf);refine seq_in tOk ?_;(conv=>whnf);obtain ⟨x1,hx1,h⟩:=bd_some h;refine cC 0 (spec_l81In_c hx1) ?_;clear hx1;(conv=>whnf);refine andI h (fun _ h=>?_) (fun _ h=>?_)
  · (conv=>whnf);obtain rfl:=Option.some.inj h;exact lfP []
  · (conv=>whnf);refine seq_in tOk ?_;(conv=>whnf);obtain ⟨x5,hx5,h⟩:=bd_some h;refine loop_m tOk hx5 (fun s2=>⟨0,47,[(0,.d (.int .i64 a0)),(1,.d (slD TreeLink.enc a1)),(5,.d (.int .i64 s2))],[],[],[]⟩) ?_ ?_
    · exact leX []
    · clear hx5;intro s2 y3 g4 hy3;(conv=>whnf);refine seq_in tOk ?_;(conv=>whnf);refine andI g4 (fun _ g4=>?_) (fun _ g4=>?_)
      · (conv=>whnf);refine seq_in tOk ?_;(conv=>whnf);refine gdI g4 (fun g4=>?_);(conv=>whnf);obtain ⟨x7,hx7,g4⟩:=bd_some g4;refine cG (fun c0=>spec_l81In_c (gcall_some hx7 c0)) ?_;(conv=>whnf);refine andI g4 (fun _ g4=>?_) (fun _ g4=>?_)
        · (conv=>whnf);obtain rfl:=Option.some.inj g4;obtain rfl:=hy3 _ rfl;obtain rfl:=Option.some.inj h;exact lfP []
        · (conv=>whnf);obtain rfl:=Option.some.inj g4;exact ⟨_,rfl,leX []⟩
      · (conv=>whnf);obtain rfl:=Option.some.inj g4;obtain rfl:=hy3 _ rfl;obtain rfl:=Option.some.inj h;exact lfP []
noncomputable def spec_TreeVectorOk_m (a0:TreeVector):Option (Bool) :=
(if (a0.Root == 0) = true then
 some ((a0.Cost == 0) && (a0.Age == 0))
else
 bd (spec_l81In_m a0.Root 1 1000) fun x1 =>
 bd (gcall (x1 = true) (spec_l81In_m a0.Cost 0 1000)) fun x2 =>
 bd (gcall ((x1 && x2) = true) (spec_l81In_m a0.Age 0 10)) fun x3 =>
 some ((x1 && x2) && x3))
theorem spec_TreeVectorOk_c {a0:TreeVector} {r:Bool} (h:spec_TreeVectorOk_m a0 = some r):PureC Tryz.prog 131 [.agg [.d (.int .i64 a0.Root),.d (.int .i64 a0.Cost),.d (.int .i64 a0.Age)]] (.d (.bool r)) []:=by
  refine pureC_x tOk (fn:=Tryz.f131) (c:=codeOf Tryz.f131) rfl rfl ?_;unfold spec_TreeVectorOk_m at h;(conv=>whnf);refine seq_in tOk ?_;(conv=>whnf);refine andI h (fun _ h=>?_) (fun _ h=>?_)
  · (conv=>whnf);obtain rfl:=Option.some.inj h;exact lfP []
  · (conv=>whnf);obtain ⟨x1,hx1,h⟩:=bd_some h;refine cC 0 (spec_l81In_c hx1) ?_;clear hx1;(conv=>whnf);obtain ⟨x2,hx2,h⟩:=bd_some h;refine cG (fun c0=>spec_l81In_c (gcall_some hx2 c0)) ?_;(conv=>whnf);obtain ⟨x3,hx3,h⟩:=bd_some h;refine cG (fun c0=>spec_l81In_c (gcall_some hx3 c0)) ?_;(conv=>whnf);obtain rfl:=Option.some.inj h;exact lfP []
noncomputable def spec_l82Lists_m (a0:TreeWorld):Option (Bool) :=
(if (((((a0.AtA.length:Nat):Int) != ((a0.Links.length:Nat):Int)) || (((a0.AtB.length:Nat):Int) != ((a0.Links.length:Nat):Int))) || (decide (((a0.Radio.length:Nat):Int) > 12))) = true then
 some false
else
 bd (lp (σ:=Int) (β:=(Unit ⊕ Unit)) (fun s1 =>
(if (decide (s1<((a0.Down.length:Nat):Int))) = true then
 gd ((0:Int)≤s1∧s1<((a0.Down.length:Nat):Int)) <|
 bd (spec_l81In_m (a0.Down.getD s1.toNat default) 0 (IntKind.i64.wrap (((a0.Links.length:Nat):Int) - 1))) fun x6 =>
 gd ((decide (s1 > 0)) = true → ((!x6) = false → ((0:Int)≤IntKind.i64.wrap (s1 - 1)∧IntKind.i64.wrap (s1 - 1)<((a0.Down.length:Nat):Int)))) <|
 gd ((decide (s1 > 0)) = true → ((!x6) = false → ((0:Int)≤s1∧s1<((a0.Down.length:Nat):Int)))) <|
(if ((!x6) || ((decide (s1 > 0)) && (decide ((a0.Down.getD ((IntKind.i64.wrap (s1 - 1)).toNat) default) ≥ (a0.Down.getD s1.toNat default))))) = true then
 some (.inr (.inl ()))
else
 some (.inl (IntKind.i64.wrap (s1+1))))
else
 some (.inr (.inr ())))) 0) fun x4 =>
(match x4 with
| .inl d9 =>
 some false
| .inr d10 =>
 bd (lp (σ:=Int) (β:=(Unit ⊕ Unit)) (fun s11 =>
(if (decide (s11<((a0.Radio.length:Nat):Int))) = true then
 gd ((0:Int)≤s11∧s11<((a0.Radio.length:Nat):Int)) <|
 bd (spec_l81In_m ((a0.Radio.getD s11.toNat default).Link) 0 (IntKind.i64.wrap (((a0.Links.length:Nat):Int) - 1))) fun x16 =>
 bd (gcall ((!x16) = false) (spec_l81In_m ((a0.Radio.getD s11.toNat default).End) 0 1)) fun x17 =>
 bd (gcall (((!x16) || (!x17)) = false) (spec_TreeVectorOk_m ((a0.Radio.getD s11.toNat default).Vector))) fun x18 =>
(if ((((!x16) || (!x17)) || (!x18)) || ((((a0.Radio.getD s11.toNat default).Vector).Root) == 0)) = true then
 some (.inr (.inl ()))
else
 some (.inl (IntKind.i64.wrap (s11+1))))
else
 some (.inr (.inr ())))) 0) fun x14 =>
(match x14 with
| .inl d19 =>
 some false
| .inr d20 =>
 some true)))
theorem spec_l82Lists_c {a0:TreeWorld} {r:Bool} (h:spec_l82Lists_m a0 = some r):PureC Tryz.prog 95 [.agg [.d (slD TreeBridge.enc a0.Bridges),.d (slD TreeLink.enc a0.Links),.d (slD encInt a0.Down),.d (slD TreeSlot.enc a0.AtA),.d (slD TreeSlot.enc a0.AtB),.d (slD TreeWord.enc a0.Radio)]] (.d (.bool r)) []:=by
  refine pureC_x tOk (fn:=Tryz.f95) (c:=codeOf Tryz.f95) rfl rfl ?_;unfold spec_l82Lists_m at h;(conv=>whnf);refine seq_in tOk ?_;(conv=>whnf);refine andI h (fun _ h=>?_) (fun _ h=>?_)
  · (conv=>whnf);obtain rfl:=Option.some.inj h;exact lfP []
  · (conv=>whnf);refine seq_in tOk ?_;(conv=>whnf);obtain ⟨x4,hx4,h⟩:=bd_some h;refine loop_m tOk hx4 (fun s1=>⟨0,102,[(1,.ref 1 0 0),(3,.d (.int .i64 s1))],[],[(1,.box 29 [.d (slD TreeBridge.enc a0.Bridges),.d (slD TreeLink.enc a0.Links),.d (slD encInt a0.Down),.d (slD TreeSlot.enc a0.AtA),.d (slD TreeSlot.enc a0.AtB),.d (slD TreeWord.enc a0.Radio)])],[]⟩) ?_ ?_
    · exact leX []
    · clear hx4;intro s1 y2 g3 hy2;(conv=>whnf);refine seq_in tOk ?_;(conv=>whnf);refine andI g3 (fun _ g3=>?_) (fun _ g3=>?_)
      · (conv=>whnf);refine seq_in tOk ?_;(conv=>whnf);obtain ⟨g5,g3⟩:=gd_some g3;obtain ⟨x6,hx6,g3⟩:=bd_some g3;obtain ⟨g7,g3⟩:=gd_some g3;obtain ⟨g8,g3⟩:=gd_some g3;refine draw_u tOk [.u 9 0 (.d (.bool x6)) []] 29 [] [0,1,0,7,15,0,32,96,224,511,1023,2047,4095,8191,16383,32767,65535,32767,163839,524287,1048575,32767,2129919,32767,14712831,31490047,67108863,134217727,268435455] [] ?_;(conv=>whnf);refine And.intro g5 ?_;clear g5;(conv=>whnf);refine And.intro (callD_any (spec_l81In_c hx6) (by kernel_rfl)) ?_;(conv=>whnf);refine And.intro g7 ?_;clear g7;(conv=>whnf);refine And.intro g8 ?_;clear g8;(conv=>whnf);refine And.intro (by kernel_rfl) ?_;(conv=>whnf);refine andI g3 (fun _ g3=>?_) (fun _ g3=>?_)
        · (conv=>whnf);obtain rfl:=Option.some.inj g3;obtain rfl:=hy2 _ rfl;obtain rfl:=Option.some.inj h;exact lfP []
        · (conv=>whnf);obtain rfl:=Option.some.inj g3;exact ⟨_,rfl,leX []⟩
      · (conv=>whnf);obtain rfl:=Option.some.inj g3;obtain rfl:=hy2 _ rfl;refine seq_in tOk ?_;(conv=>whnf);obtain ⟨x14,hx14,h⟩:=bd_some h;refine loop_m tOk hx14 (fun s11=>⟨0,102,[(1,.ref 1 0 0),(4,.d (.int .i64 s11))],[],[(1,.box 29 [.d (slD TreeBridge.enc a0.Bridges),.d (slD TreeLink.enc a0.Links),.d (slD encInt a0.Down),.d (slD TreeSlot.enc a0.AtA),.d (slD TreeSlot.enc a0.AtB),.d (slD TreeWord.enc a0.Radio)])],[]⟩) ?_ ?_
        · exact leX []
        · clear hx14;intro s11 y12 g13 hy12;(conv=>whnf);refine seq_in tOk ?_;(conv=>whnf);refine andI g13 (fun _ g13=>?_) (fun _ g13=>?_)
          · (conv=>whnf);refine seq_in tOk ?_;(conv=>whnf);refine gdI g13 (fun g13=>?_);(conv=>whnf);obtain ⟨x16,hx16,g13⟩:=bd_some g13;refine cC 0 (spec_l81In_c hx16) ?_;clear hx16;(conv=>whnf);obtain ⟨x17,hx17,g13⟩:=bd_some g13;refine cG (fun c0=>spec_l81In_c (gcall_some hx17 c0)) ?_;(conv=>whnf);obtain ⟨x18,hx18,g13⟩:=bd_some g13;refine cG (fun c0=>spec_TreeVectorOk_c (gcall_some hx18 c0)) ?_;(conv=>whnf);refine andI g13 (fun _ g13=>?_) (fun _ g13=>?_)
            · (conv=>whnf);obtain rfl:=Option.some.inj g13;obtain rfl:=hy12 _ rfl;obtain rfl:=Option.some.inj h;exact lfP []
            · (conv=>whnf);obtain rfl:=Option.some.inj g13;exact ⟨_,rfl,leX []⟩
          · (conv=>whnf);obtain rfl:=Option.some.inj g13;obtain rfl:=hy12 _ rfl;obtain rfl:=Option.some.inj h;exact lfP []
noncomputable def spec_l82BridgeOk_m (a0:TreeWorld) (a1:Int):Option (Bool) :=
 gd ((0:Int)≤a1∧a1<((a0.Bridges.length:Nat):Int)) <|
 bd (spec_l81In_m ((a0.Bridges.getD a1.toNat default).Id) 1 1000) fun x2 =>
(if (!x2) = true then
 some false
else
 bd (lp (σ:=Int) (β:=(Unit ⊕ Unit)) (fun s3 =>
(if (decide (s3<a1)) = true then
 gd ((0:Int)≤s3∧s3<((a0.Bridges.length:Nat):Int)) <|
(if (((a0.Bridges.getD s3.toNat default).Id) == ((a0.Bridges.getD a1.toNat default).Id)) = true then
 some (.inr (.inl ()))
else
 some (.inl (IntKind.i64.wrap (s3+1))))
else
 some (.inr (.inr ())))) 0) fun x6 =>
(match x6 with
| .inl d8 =>
 some false
| .inr d9 =>
(if (!((a0.Bridges.getD a1.toNat default).Up)) = true then
 some (((((((a0.Bridges.getD a1.toNat default).Mind).Vector).Root) == 0) && ((((((a0.Bridges.getD a1.toNat default).Mind).Vector).Cost) == 0) && ((((((a0.Bridges.getD a1.toNat default).Mind).Vector).Age) == 0) && true))) && (((((a0.Bridges.getD a1.toNat default).Mind).Link) == 0) && true))
else
 bd (spec_TreeVectorOk_m (((a0.Bridges.getD a1.toNat default).Mind).Vector)) fun x10 =>
 bd (gcall ((x10 && (decide (((((a0.Bridges.getD a1.toNat default).Mind).Vector).Root) > 0))) = true) (spec_l81In_m (((a0.Bridges.getD a1.toNat default).Mind).Link) (-1) (IntKind.i64.wrap (((a0.Links.length:Nat):Int) - 1)))) fun x11 =>
 some ((x10 && (decide (((((a0.Bridges.getD a1.toNat default).Mind).Vector).Root) > 0))) && x11))))
theorem spec_l82BridgeOk_c {a0:TreeWorld} {a1:Int} {r:Bool} (h:spec_l82BridgeOk_m a0 a1 = some r):PureC Tryz.prog 96 [.agg [.d (slD TreeBridge.enc a0.Bridges),.d (slD TreeLink.enc a0.Links),.d (slD encInt a0.Down),.d (slD TreeSlot.enc a0.AtA),.d (slD TreeSlot.enc a0.AtB),.d (slD TreeWord.enc a0.Radio)],.d (.int .i64 a1)] (.d (.bool r)) []:=by
  refine pureC_x tOk (fn:=Tryz.f96) (c:=codeOf Tryz.f96) rfl rfl ?_;unfold spec_l82BridgeOk_m at h;(conv=>whnf);refine gdI h (fun h=>?_);(conv=>whnf);refine seq_in tOk ?_;(conv=>whnf);obtain ⟨x2,hx2,h⟩:=bd_some h;refine cC 0 (spec_l81In_c hx2) ?_;clear hx2;(conv=>whnf);refine andI h (fun _ h=>?_) (fun _ h=>?_)
  · (conv=>whnf);obtain rfl:=Option.some.inj h;exact lfP []
  · (conv=>whnf);refine seq_in tOk ?_;(conv=>whnf);obtain ⟨x6,hx6,h⟩:=bd_some h;refine loop_m tOk hx6 (fun s3=>⟨0,57,[(1,.d (.int .i64 a1)),(2,.ref 2 0 0),(5,.ref 5 0 0),(6,.d (.int .i64 s3))],[],[(5,.box 42 [.d (.int .i64 ((a0.Bridges.getD a1.toNat default).Id)),.d (.bool ((a0.Bridges.getD a1.toNat default).Up)),.d (.int .i64 ((((a0.Bridges.getD a1.toNat default).Mind).Vector).Root)),.d (.int .i64 ((((a0.Bridges.getD a1.toNat default).Mind).Vector).Cost)),.d (.int .i64 ((((a0.Bridges.getD a1.toNat default).Mind).Vector).Age)),.d (.int .i64 (((a0.Bridges.getD a1.toNat default).Mind).Link))]),(2,.box 29 [.d (slD TreeBridge.enc a0.Bridges),.d (slD TreeLink.enc a0.Links),.d (slD encInt a0.Down),.d (slD TreeSlot.enc a0.AtA),.d (slD TreeSlot.enc a0.AtB),.d (slD TreeWord.enc a0.Radio)])],[]⟩) ?_ ?_
    · exact leX []
    · clear hx6;intro s3 y4 g5 hy4;(conv=>whnf);refine seq_in tOk ?_;(conv=>whnf);refine andI g5 (fun _ g5=>?_) (fun _ g5=>?_)
      · (conv=>whnf);refine seq_in tOk ?_;(conv=>whnf);obtain ⟨g7,g5⟩:=gd_some g5;refine draw_u tOk [] 9 [] [0,1,0,7,15,31,0,64,255] [] ?_;(conv=>whnf);refine And.intro g7 ?_;clear g7;(conv=>whnf);refine And.intro (by kernel_rfl) ?_;(conv=>whnf);refine andI g5 (fun _ g5=>?_) (fun _ g5=>?_)
        · (conv=>whnf);obtain rfl:=Option.some.inj g5;obtain rfl:=hy4 _ rfl;obtain rfl:=Option.some.inj h;exact lfP []
        · (conv=>whnf);obtain rfl:=Option.some.inj g5;exact ⟨_,rfl,leX []⟩
      · (conv=>whnf);obtain rfl:=Option.some.inj g5;obtain rfl:=hy4 _ rfl;refine seq_in tOk ?_;(conv=>whnf);refine andI h (fun _ h=>?_) (fun _ h=>?_)
        · (conv=>whnf);obtain rfl:=Option.some.inj h;exact lfP []
        · (conv=>whnf);obtain ⟨x10,hx10,h⟩:=bd_some h;refine cC 0 (spec_TreeVectorOk_c hx10) ?_;clear hx10;(conv=>whnf);obtain ⟨x11,hx11,h⟩:=bd_some h;refine cG (fun c0=>spec_l81In_c (gcall_some hx11 c0)) ?_;(conv=>whnf);obtain rfl:=Option.some.inj h;exact lfP []
noncomputable def spec_l82SlotOk_m (a0:TreeSlot):Option (Bool) :=
 bd (spec_TreeVectorOk_m a0.Vector) fun x1 =>
 bd (gcall (x1 = true) (spec_l81In_m a0.Left 0 3)) fun x2 =>
 some ((x1 && x2) && ((a0.Left == 0) == (a0.Vector.Root == 0)))
theorem spec_l82SlotOk_c {a0:TreeSlot} {r:Bool} (h:spec_l82SlotOk_m a0 = some r):PureC Tryz.prog 132 [.agg [.d (.int .i64 a0.Vector.Root),.d (.int .i64 a0.Vector.Cost),.d (.int .i64 a0.Vector.Age),.d (.int .i64 a0.Left)]] (.d (.bool r)) []:=by
  refine pureC_x tOk (fn:=Tryz.f132) (c:=codeOf Tryz.f132) rfl rfl ?_;unfold spec_l82SlotOk_m at h;(conv=>whnf);obtain ⟨x1,hx1,h⟩:=bd_some h;refine cC 0 (spec_TreeVectorOk_c hx1) ?_;clear hx1;(conv=>whnf);obtain ⟨x2,hx2,h⟩:=bd_some h;refine cG (fun c0=>spec_l81In_c (gcall_some hx2 c0)) ?_;(conv=>whnf);obtain rfl:=Option.some.inj h;exact lfP []
noncomputable def spec_l82Has_m (a0:(List Int)) (a1:Int):Option (Bool) :=
 bd (lp (σ:=Int) (β:=(Unit ⊕ Unit)) (fun s1 =>
(if (decide (s1<((a0.length:Nat):Int))) = true then
 gd ((0:Int)≤s1∧s1<((a0.length:Nat):Int)) <|
(if ((a0.getD s1.toNat default) == a1) = true then
 some (.inr (.inl ()))
else
 some (.inl (IntKind.i64.wrap (s1+1))))
else
 some (.inr (.inr ())))) 0) fun x4 =>
(match x4 with
| .inl d6 =>
 some true
| .inr d7 =>
 some false)
theorem spec_l82Has_c {a0:(List Int)} {a1:Int} {r:Bool} (h:spec_l82Has_m a0 a1 = some r):PureC Tryz.prog 115 [.d (slD encInt a0),.d (.int .i64 a1)] (.d (.bool r)) []:=by
  refine pureC_x tOk (fn:=Tryz.f115) (c:=codeOf Tryz.f115) rfl rfl ?_;unfold spec_l82Has_m at h;(conv=>whnf);refine seq_in tOk ?_;(conv=>whnf);obtain ⟨x4,hx4,h⟩:=bd_some h;refine loop_m tOk hx4 (fun s1=>⟨0,18,[(0,.d (slD encInt a0)),(1,.d (.int .i64 a1)),(5,.d (.int .i64 s1))],[],[],[]⟩) ?_ ?_
  · exact leX []
  · clear hx4;intro s1 y2 g3 hy2;(conv=>whnf);refine seq_in tOk ?_;(conv=>whnf);refine andI g3 (fun _ g3=>?_) (fun _ g3=>?_)
    · (conv=>whnf);refine seq_in tOk ?_;(conv=>whnf);refine gdI g3 (fun g3=>?_);(conv=>whnf);refine andI g3 (fun _ g3=>?_) (fun _ g3=>?_)
      · (conv=>whnf);obtain rfl:=Option.some.inj g3;obtain rfl:=hy2 _ rfl;obtain rfl:=Option.some.inj h;exact lfP []
      · (conv=>whnf);obtain rfl:=Option.some.inj g3;exact ⟨_,rfl,leX []⟩
    · (conv=>whnf);obtain rfl:=Option.some.inj g3;obtain rfl:=hy2 _ rfl;obtain rfl:=Option.some.inj h;exact lfP []
noncomputable def spec_l82Ends_m (a0:TreeWorld):Option (Bool) :=
 bd (lp (σ:=Int) (β:=(Unit ⊕ Unit)) (fun s1 =>
(if (decide (s1<((a0.Links.length:Nat):Int))) = true then
 gd ((0:Int)≤s1∧s1<((a0.Links.length:Nat):Int)) <|
 gd ((0:Int)≤s1∧s1<((a0.AtA.length:Nat):Int)) <|
 bd (spec_l82SlotOk_m (⟨((a0.AtA.getD s1.toNat default).Vector),(a0.AtA.getD s1.toNat default).Left⟩:TreeSlot)) fun x7 =>
 gd ((!x7) = false → ((0:Int)≤s1∧s1<((a0.AtB.length:Nat):Int))) <|
 bd (gcall ((!x7) = false) (spec_l82SlotOk_m (⟨((a0.AtB.getD s1.toNat default).Vector),(a0.AtB.getD s1.toNat default).Left⟩:TreeSlot))) fun x9 =>
(if ((!x7) || (!x9)) = true then
 some (.inr (.inl ()))
else
 bd (spec_l82Has_m a0.Down s1) fun x10 =>
 gd (x10 = false → ((0:Int)≤(a0.Links.getD s1.toNat default).A∧(a0.Links.getD s1.toNat default).A<((a0.Bridges.length:Nat):Int))) <|
 gd ((x10 || (!((a0.Bridges.getD (((a0.Links.getD s1.toNat default).A).toNat) default).Up))) = true → ((0:Int)≤s1∧s1<((a0.AtA.length:Nat):Int))) <|
 bd (gcall (((x10 || (!((a0.Bridges.getD (((a0.Links.getD s1.toNat default).A).toNat) default).Up))) && (decide (((a0.AtA.getD s1.toNat default).Left) > 0))) = false) (spec_l82Has_m a0.Down s1)) fun x13 =>
 gd (x13 = false → (((x10 || (!((a0.Bridges.getD (((a0.Links.getD s1.toNat default).A).toNat) default).Up))) && (decide (((a0.AtA.getD s1.toNat default).Left) > 0))) = false → ((0:Int)≤(a0.Links.getD s1.toNat default).B∧(a0.Links.getD s1.toNat default).B<((a0.Bridges.length:Nat):Int)))) <|
 gd ((x13 || (!((a0.Bridges.getD (((a0.Links.getD s1.toNat default).B).toNat) default).Up))) = true → (((x10 || (!((a0.Bridges.getD (((a0.Links.getD s1.toNat default).A).toNat) default).Up))) && (decide (((a0.AtA.getD s1.toNat default).Left) > 0))) = false → ((0:Int)≤s1∧s1<((a0.AtB.length:Nat):Int)))) <|
(if (((x10 || (!((a0.Bridges.getD (((a0.Links.getD s1.toNat default).A).toNat) default).Up))) && (decide (((a0.AtA.getD s1.toNat default).Left) > 0))) || ((x13 || (!((a0.Bridges.getD (((a0.Links.getD s1.toNat default).B).toNat) default).Up))) && (decide (((a0.AtB.getD s1.toNat default).Left) > 0)))) = true then
 some (.inr (.inl ()))
else
 some (.inl (IntKind.i64.wrap (s1+1)))))
else
 some (.inr (.inr ())))) 0) fun x4 =>
(match x4 with
| .inl d16 =>
 some false
| .inr d17 =>
 some true)
theorem spec_l82Ends_c {a0:TreeWorld} {r:Bool} (h:spec_l82Ends_m a0 = some r):PureC Tryz.prog 97 [.agg [.d (slD TreeBridge.enc a0.Bridges),.d (slD TreeLink.enc a0.Links),.d (slD encInt a0.Down),.d (slD TreeSlot.enc a0.AtA),.d (slD TreeSlot.enc a0.AtB),.d (slD TreeWord.enc a0.Radio)]] (.d (.bool r)) []:=by
  refine pureC_x tOk (fn:=Tryz.f97) (c:=codeOf Tryz.f97) rfl rfl ?_;unfold spec_l82Ends_m at h;(conv=>whnf);refine seq_in tOk ?_;(conv=>whnf);obtain ⟨x4,hx4,h⟩:=bd_some h;refine loop_m tOk hx4 (fun s1=>⟨0,81,[(1,.ref 1 0 0),(3,.d (.int .i64 s1))],[],[(1,.box 29 [.d (slD TreeBridge.enc a0.Bridges),.d (slD TreeLink.enc a0.Links),.d (slD encInt a0.Down),.d (slD TreeSlot.enc a0.AtA),.d (slD TreeSlot.enc a0.AtB),.d (slD TreeWord.enc a0.Radio)])],[]⟩) ?_ ?_
  · exact leX []
  · clear hx4;intro s1 y2 g3 hy2;(conv=>whnf);refine seq_in tOk ?_;(conv=>whnf);refine andI g3 (fun _ g3=>?_) (fun _ g3=>?_)
    · (conv=>whnf);refine seq_in tOk ?_;(conv=>whnf);refine gdI g3 (fun g3=>?_);(conv=>whnf);refine seq_in tOk ?_;(conv=>whnf);refine gdI g3 (fun g3=>?_);(conv=>whnf);obtain ⟨x7,hx7,g3⟩:=bd_some g3;refine cC 0 (spec_l82SlotOk_c hx7) ?_;clear hx7;(conv=>whnf);refine gdI g3 (fun g3=>?_);(conv=>whnf);obtain ⟨x9,hx9,g3⟩:=bd_some g3;refine cG (fun c0=>spec_l82SlotOk_c (gcall_some hx9 c0)) ?_;(conv=>whnf);refine andI g3 (fun _ g3=>?_) (fun _ g3=>?_)
      · (conv=>whnf);obtain rfl:=Option.some.inj g3;obtain rfl:=hy2 _ rfl;obtain rfl:=Option.some.inj h;exact lfP []
      · (conv=>whnf);obtain ⟨x10,hx10,g3⟩:=bd_some g3;refine cC 0 (spec_l82Has_c hx10) ?_;clear hx10;(conv=>whnf);refine gdI g3 (fun g3=>?_);(conv=>whnf);refine gdI g3 (fun g3=>?_);(conv=>whnf);obtain ⟨x13,hx13,g3⟩:=bd_some g3;refine cG (fun c0=>spec_l82Has_c (gcall_some hx13 c0)) ?_;(conv=>whnf);refine gdI g3 (fun g3=>?_);(conv=>whnf);refine gdI g3 (fun g3=>?_);(conv=>whnf);refine andI g3 (fun _ g3=>?_) (fun _ g3=>?_)
        · (conv=>whnf);obtain rfl:=Option.some.inj g3;obtain rfl:=hy2 _ rfl;obtain rfl:=Option.some.inj h;exact lfP []
        · (conv=>whnf);obtain rfl:=Option.some.inj g3;exact ⟨_,rfl,leX []⟩
    · (conv=>whnf);obtain rfl:=Option.some.inj g3;obtain rfl:=hy2 _ rfl;obtain rfl:=Option.some.inj h;exact lfP []
noncomputable def spec_TreeWorldOk_m (a0:TreeWorld):Option (Bool) :=
 bd (spec_TreeLinksOk_m ((a0.Bridges.length:Nat):Int) a0.Links) fun x1 =>
 bd (gcall ((!x1) = false) (spec_l82Lists_m a0)) fun x2 =>
(if ((!x1) || (!x2)) = true then
 some false
else
 bd (lp (σ:=Int) (β:=(Unit ⊕ Unit)) (fun s3 =>
(if (decide (s3<((a0.Bridges.length:Nat):Int))) = true then
 bd (spec_l82BridgeOk_m a0 s3) fun x7 =>
(if (!x7) = true then
 some (.inr (.inl ()))
else
 some (.inl (IntKind.i64.wrap (s3+1))))
else
 some (.inr (.inr ())))) 0) fun x6 =>
(match x6 with
| .inl d8 =>
 some false
| .inr d9 =>
 bd (spec_l82Ends_m a0) fun x10 =>
 some x10))
theorem spec_TreeWorldOk_c {a0:TreeWorld} {r:Bool} (h:spec_TreeWorldOk_m a0 = some r):PureC Tryz.prog 43 [.agg [.d (slD TreeBridge.enc a0.Bridges),.d (slD TreeLink.enc a0.Links),.d (slD encInt a0.Down),.d (slD TreeSlot.enc a0.AtA),.d (slD TreeSlot.enc a0.AtB),.d (slD TreeWord.enc a0.Radio)]] (.d (.bool r)) []:=by
  refine pureC_x tOk (fn:=Tryz.f43) (c:=codeOf Tryz.f43) rfl rfl ?_;unfold spec_TreeWorldOk_m at h;(conv=>whnf);refine seq_in tOk ?_;(conv=>whnf);obtain ⟨x1,hx1,h⟩:=bd_some h;refine cC 0 (spec_TreeLinksOk_c hx1) ?_;clear hx1;(conv=>whnf);obtain ⟨x2,hx2,h⟩:=bd_some h;refine cG (fun c0=>spec_l82Lists_c (gcall_some hx2 c0)) ?_;(conv=>whnf);refine andI h (fun _ h=>?_) (fun _ h=>?_)
  · (conv=>whnf);obtain rfl:=Option.some.inj h;exact lfP []
  · (conv=>whnf);refine seq_in tOk ?_;(conv=>whnf);obtain ⟨x6,hx6,h⟩:=bd_some h;refine loop_m tOk hx6 (fun s3=>⟨0,29,[(1,.ref 1 0 0),(3,.d (.int .i64 s3))],[],[(1,.box 29 [.d (slD TreeBridge.enc a0.Bridges),.d (slD TreeLink.enc a0.Links),.d (slD encInt a0.Down),.d (slD TreeSlot.enc a0.AtA),.d (slD TreeSlot.enc a0.AtB),.d (slD TreeWord.enc a0.Radio)])],[]⟩) ?_ ?_
    · exact leX []
    · clear hx6;intro s3 y4 g5 hy4;(conv=>whnf);refine seq_in tOk ?_;(conv=>whnf);refine andI g5 (fun _ g5=>?_) (fun _ g5=>?_)
      · (conv=>whnf);refine seq_in tOk ?_;(conv=>whnf);obtain ⟨x7,hx7,g5⟩:=bd_some g5;refine cC 0 (spec_l82BridgeOk_c hx7) ?_;clear hx7;(conv=>whnf);refine andI g5 (fun _ g5=>?_) (fun _ g5=>?_)
        · (conv=>whnf);obtain rfl:=Option.some.inj g5;obtain rfl:=hy4 _ rfl;obtain rfl:=Option.some.inj h;exact lfP []
        · (conv=>whnf);obtain rfl:=Option.some.inj g5;exact ⟨_,rfl,leX []⟩
      · (conv=>whnf);obtain rfl:=Option.some.inj g5;obtain rfl:=hy4 _ rfl;obtain ⟨x10,hx10,h⟩:=bd_some h;refine cC 0 (spec_l82Ends_c hx10) ?_;clear hx10;(conv=>whnf);obtain rfl:=Option.some.inj h;exact lfP []
noncomputable def spec_l82Copy_m (a0:TreeWorld):Option (TreeWorld) :=
 gd (((0)+(a0.Bridges.length)) * (48+1)≤70368744177664) <|
 gd (((0)+(a0.Links.length)) * (24+1)≤70368744177664) <|
 gd (((0)+(a0.Down.length)) * (8+1)≤70368744177664) <|
 gd (((0)+(a0.AtA.length)) * (32+1)≤70368744177664) <|
 gd (((0)+(a0.AtB.length)) * (32+1)≤70368744177664) <|
 gd (((0)+(a0.Radio.length)) * (40+1)≤70368744177664) <|
 some a0
theorem spec_l82Copy_c {a0:TreeWorld} {r:TreeWorld} (h:spec_l82Copy_m a0 = some r):PureC Tryz.prog 44 [.agg [.d (slD TreeBridge.enc a0.Bridges),.d (slD TreeLink.enc a0.Links),.d (slD encInt a0.Down),.d (slD TreeSlot.enc a0.AtA),.d (slD TreeSlot.enc a0.AtB),.d (slD TreeWord.enc a0.Radio)]] (.agg [.osl 5001 0 r.Bridges.length,.osl 5002 0 r.Links.length,.osl 5003 0 r.Down.length,.osl 5004 0 r.AtA.length,.osl 5005 0 r.AtB.length,.osl 5006 0 r.Radio.length]) [⟨5001,42,6,r.Bridges.length,rows TreeBridge.enc r.Bridges⟩,⟨5002,66,3,r.Links.length,rows TreeLink.enc r.Links⟩,⟨5003,3,1,r.Down.length,rows encInt r.Down⟩,⟨5004,113,4,r.AtA.length,rows TreeSlot.enc r.AtA⟩,⟨5005,113,4,r.AtB.length,rows TreeSlot.enc r.AtB⟩,⟨5006,107,5,r.Radio.length,rows TreeWord.enc r.Radio⟩]:=by
  refine pureC_x tOk (fn:=Tryz.f44) (c:=codeOf Tryz.f44) rfl rfl ?_;unfold spec_l82Copy_m at h;(conv=>whnf);obtain ⟨g1,h⟩:=gd_some h;obtain ⟨g2,h⟩:=gd_some h;obtain ⟨g3,h⟩:=gd_some h;obtain ⟨g4,h⟩:=gd_some h;obtain ⟨g5,h⟩:=gd_some h;obtain ⟨g6,h⟩:=gd_some h;refine draw_u tOk [] 25 [] [0,0,2,7,0,0,32,127,0,0,512,2047,0,0,8192,32767,0,0,131072,524287,0,0,2097152,8388607,16777215] [33554431] ?_;(conv=>whnf);refine And.intro g1 ?_;clear g1;refine appN (enc:=TreeBridge.enc) (ys:=a0.Bridges) ?_;(conv=>whnf);refine And.intro g2 ?_;clear g2;refine appN (enc:=TreeLink.enc) (ys:=a0.Links) ?_;(conv=>whnf);refine And.intro g3 ?_;clear g3;refine appN (enc:=encInt) (ys:=a0.Down) ?_;(conv=>whnf);refine And.intro g4 ?_;clear g4;refine appN (enc:=TreeSlot.enc) (ys:=a0.AtA) ?_;(conv=>whnf);refine And.intro g5 ?_;clear g5;refine appN (enc:=TreeSlot.enc) (ys:=a0.AtB) ?_;(conv=>whnf);refine And.intro g6 ?_;clear g6;refine appN (enc:=TreeWord.enc) (ys:=a0.Radio) ?_;(conv=>whnf);refine And.intro (by kernel_rfl) ?_;(conv=>whnf);obtain rfl:=Option.some.inj h;exact lfP [.s [(6,5001),(10,5002),(14,5003),(18,5004),(22,5005),(26,5006),(5001,6),(5002,10),(5003,14),(5004,18),(5005,22),(5006,26)]]
noncomputable def spec_l83Open_m (a0:TreeWorld) (a1:Int):Option (Bool) :=
 bd (spec_l82Has_m a0.Down a1) fun x1 =>
 gd ((!x1) = true → ((0:Int)≤a1∧a1<((a0.Links.length:Nat):Int))) <|
 gd ((!x1) = true → ((0:Int)≤(a0.Links.getD a1.toNat default).A∧(a0.Links.getD a1.toNat default).A<((a0.Bridges.length:Nat):Int))) <|
 gd (((!x1) && (a0.Bridges.getD (((a0.Links.getD a1.toNat default).A).toNat) default).Up) = true → ((0:Int)≤a1∧a1<((a0.Links.length:Nat):Int))) <|
 gd (((!x1) && (a0.Bridges.getD (((a0.Links.getD a1.toNat default).A).toNat) default).Up) = true → ((0:Int)≤(a0.Links.getD a1.toNat default).B∧(a0.Links.getD a1.toNat default).B<((a0.Bridges.length:Nat):Int))) <|
 some (((!x1) && (a0.Bridges.getD (((a0.Links.getD a1.toNat default).A).toNat) default).Up) && (a0.Bridges.getD (((a0.Links.getD a1.toNat default).B).toNat) default).Up)
theorem spec_l83Open_c {a0:TreeWorld} {a1:Int} {r:Bool} (h:spec_l83Open_m a0 a1 = some r):PureC Tryz.prog 133 [.agg [.d (slD TreeBridge.enc a0.Bridges),.d (slD TreeLink.enc a0.Links),.d (slD encInt a0.Down),.d (slD TreeSlot.enc a0.AtA),.d (slD TreeSlot.enc a0.AtB),.d (slD TreeWord.enc a0.Radio)],.d (.int .i64 a1)] (.d (.bool r)) []:=by
  refine pureC_x tOk (fn:=Tryz.f133) (c:=codeOf Tryz.f133) rfl rfl ?_;unfold spec_l83Open_m at h;(conv=>whnf);obtain ⟨x1,hx1,h⟩:=bd_some h;obtain ⟨g2,h⟩:=gd_some h;obtain ⟨g3,h⟩:=gd_some h;obtain ⟨g4,h⟩:=gd_some h;obtain ⟨g5,h⟩:=gd_some h;refine draw_u tOk [.u 3 0 (.d (.bool x1)) []] 32 [] [0,1,0,7,15,31,63,127,63,319,63,1855,3903,7999,16383,32767,65535,131071,262143,524287,1048575,524287,2621439,524287,15204351,31981567,65535999,134217727,268435455,536870911,1073741823,2147483647] [] ?_;(conv=>whnf);refine And.intro (callD_any (spec_l82Has_c hx1) (by kernel_rfl)) ?_;(conv=>whnf);refine And.intro g2 ?_;clear g2;(conv=>whnf);refine And.intro g3 ?_;clear g3;(conv=>whnf);refine And.intro g4 ?_;clear g4;(conv=>whnf);refine And.intro g5 ?_;clear g5;(conv=>whnf);refine And.intro (by kernel_rfl) ?_;(conv=>whnf);obtain rfl:=Option.some.inj h;exact lfP []
noncomputable def spec_l83End_m (a0:TreeWorld) (a1:Int) (a2:Int):Option (Int) :=
(if (a2 == 0) = true then
 gd ((0:Int)≤a1∧a1<((a0.Links.length:Nat):Int)) <|
 some ((a0.Links.getD a1.toNat default).A)
else
 gd ((0:Int)≤a1∧a1<((a0.Links.length:Nat):Int)) <|
 some ((a0.Links.getD a1.toNat default).B))
theorem spec_l83End_c {a0:TreeWorld} {a1:Int} {a2:Int} {r:Int} (h:spec_l83End_m a0 a1 a2 = some r):PureC Tryz.prog 150 [.agg [.d (slD TreeBridge.enc a0.Bridges),.d (slD TreeLink.enc a0.Links),.d (slD encInt a0.Down),.d (slD TreeSlot.enc a0.AtA),.d (slD TreeSlot.enc a0.AtB),.d (slD TreeWord.enc a0.Radio)],.d (.int .i64 a1),.d (.int .i64 a2)] (.d (.int .i64 r)) []:=by
  refine pureC_x tOk (fn:=Tryz.f150) (c:=codeOf Tryz.f150) rfl rfl ?_;unfold spec_l83End_m at h;(conv=>whnf);refine seq_in tOk ?_;(conv=>whnf);refine andI h (fun _ h=>?_) (fun _ h=>?_)
  · (conv=>whnf);refine gdI h (fun h=>?_);(conv=>whnf);obtain rfl:=Option.some.inj h;exact lfP []
  · (conv=>whnf);refine gdI h (fun h=>?_);(conv=>whnf);obtain rfl:=Option.some.inj h;exact lfP []
noncomputable def spec_l83Word_m (a0:TreeWorld) (a1:Int) (a2:Int):Option (TreeWord) :=
 bd (spec_l83End_m a0 a1 (IntKind.i64.wrap (1 - a2))) fun x1 =>
 gd ((0:Int)≤x1∧x1<((a0.Bridges.length:Nat):Int)) <|
 some (⟨a1,a2,(((a0.Bridges.getD x1.toNat default).Mind).Vector)⟩:TreeWord)
theorem spec_l83Word_c {a0:TreeWorld} {a1:Int} {a2:Int} {r:TreeWord} (h:spec_l83Word_m a0 a1 a2 = some r):PureC Tryz.prog 135 [.agg [.d (slD TreeBridge.enc a0.Bridges),.d (slD TreeLink.enc a0.Links),.d (slD encInt a0.Down),.d (slD TreeSlot.enc a0.AtA),.d (slD TreeSlot.enc a0.AtB),.d (slD TreeWord.enc a0.Radio)],.d (.int .i64 a1),.d (.int .i64 a2)] (.agg [.d (.int .i64 r.Link),.d (.int .i64 r.End),.d (.int .i64 r.Vector.Root),.d (.int .i64 r.Vector.Cost),.d (.int .i64 r.Vector.Age)]) []:=by
  refine pureC_x tOk (fn:=Tryz.f135) (c:=codeOf Tryz.f135) rfl rfl ?_;unfold spec_l83Word_m at h;(conv=>whnf);obtain ⟨x1,hx1,h⟩:=bd_some h;obtain ⟨g2,h⟩:=gd_some h;refine draw_u tOk [.u 8 0 (.d (.int .i64 x1)) []] 14 [] [0,0,0,4,0,0,0,64,240,508,1020,2044,4092,8191] [16383] ?_;(conv=>whnf);refine And.intro (callD_any (spec_l83End_c hx1) (by kernel_rfl)) ?_;(conv=>whnf);refine And.intro g2 ?_;clear g2;(conv=>whnf);refine And.intro (by kernel_rfl) ?_;(conv=>whnf);obtain rfl:=Option.some.inj h;exact lfP []
noncomputable def spec_l83Put_m (a0:TreeWorld) (a1:TreeWord):Option (TreeWorld) :=
(if (decide (((a0.Radio.length:Nat):Int)<12)) = true then
 gd (((a0.Radio.length)+(([a1]:List TreeWord).length)) * (40+1)≤70368744177664) <|
 some ({ a0 with Radio:=(a0.Radio ++ ([a1]:List TreeWord)) })
else
 some a0)
theorem spec_l83Put_c {a0:TreeWorld} {a1:TreeWord} {r:TreeWorld} (h:spec_l83Put_m a0 a1 = some r):EffC Tryz.prog 134 [.agg [.d (slD TreeBridge.enc a0.Bridges),.d (slD TreeLink.enc a0.Links),.d (slD encInt a0.Down),.d (slD TreeSlot.enc a0.AtA),.d (slD TreeSlot.enc a0.AtB),.osl 9000 0 a0.Radio.length],.agg [.d (.int .i64 a1.Link),.d (.int .i64 a1.End),.d (.int .i64 a1.Vector.Root),.d (.int .i64 a1.Vector.Cost),.d (.int .i64 a1.Vector.Age)]] [(9000,.arr 107 5 a0.Radio.length (rows TreeWord.enc a0.Radio))] (.agg [.d (slD TreeBridge.enc r.Bridges),.d (slD TreeLink.enc r.Links),.d (slD encInt r.Down),.d (slD TreeSlot.enc r.AtA),.d (slD TreeSlot.enc r.AtB),.osl 5001 0 r.Radio.length]) [(5001,.arr 107 5 r.Radio.length (rows TreeWord.enc r.Radio))]:=by
  refine effC_x tOk (fn:=Tryz.f134) (c:=codeOf Tryz.f134) rfl rfl ?_;unfold spec_l83Put_m at h;(conv=>whnf);refine seq_in tOk ?_;(conv=>whnf);refine andI h (fun _ h=>?_) (fun _ h=>?_)
  · (conv=>whnf);refine bldS (enc:=TreeWord.enc) ([a1]:List TreeWord) ?_;(conv=>whnf);refine gdI h (fun h=>?_);refine appS (enc:=TreeWord.enc) (xs:=a0.Radio) (ys:=([a1]:List TreeWord)) ?_;(conv=>whnf);obtain rfl:=Option.some.inj h;exact lfE [.s [(5001,9000),(9000,5001)]]
  · (conv=>whnf);obtain rfl:=Option.some.inj h;exact lfE [.s [(5001,9000),(9000,5001)]]
noncomputable def spec_l83Say_m (a0:TreeWorld) (a1:TreeEvent):Option (TreeWorld) :=
 bd (spec_l81In_m a1.At 0 (IntKind.i64.wrap (((a0.Links.length:Nat):Int) - 1))) fun x1 =>
 bd (gcall ((!x1) = false) (spec_l81In_m a1.End 0 1)) fun x2 =>
 bd (gcall (((!x1) || (!x2)) = false) (spec_l83Open_m a0 a1.At)) fun x3 =>
(if (((!x1) || (!x2)) || (!x3)) = true then
 some a0
else
 bd (spec_l83Word_m a0 a1.At a1.End) fun x4 =>
 bd (spec_l83Put_m a0 x4) fun x5 =>
 some x5)
theorem spec_l83Say_c {a0:TreeWorld} {a1:TreeEvent} {r:TreeWorld} (h:spec_l83Say_m a0 a1 = some r):EffC Tryz.prog 98 [.agg [.d (slD TreeBridge.enc a0.Bridges),.d (slD TreeLink.enc a0.Links),.d (slD encInt a0.Down),.d (slD TreeSlot.enc a0.AtA),.d (slD TreeSlot.enc a0.AtB),.osl 9000 0 a0.Radio.length],.agg [.d (.int .i64 a1.Kind),.d (.int .i64 a1.At),.d (.int .i64 a1.End)]] [(9000,.arr 107 5 a0.Radio.length (rows TreeWord.enc a0.Radio))] (.agg [.d (slD TreeBridge.enc r.Bridges),.d (slD TreeLink.enc r.Links),.d (slD encInt r.Down),.d (slD TreeSlot.enc r.AtA),.d (slD TreeSlot.enc r.AtB),.d (slD TreeWord.enc r.Radio)]) []:=by
  refine effC_x tOk (fn:=Tryz.f98) (c:=codeOf Tryz.f98) rfl rfl ?_;unfold spec_l83Say_m at h;(conv=>whnf);refine seq_in tOk ?_;(conv=>whnf);obtain ⟨x1,hx1,h⟩:=bd_some h;refine cC 0 (spec_l81In_c hx1) ?_;clear hx1;(conv=>whnf);obtain ⟨x2,hx2,h⟩:=bd_some h;refine cG (fun c0=>spec_l81In_c (gcall_some hx2 c0)) ?_;(conv=>whnf);obtain ⟨x3,hx3,h⟩:=bd_some h;refine cG (fun c0=>spec_l83Open_c (gcall_some hx3 c0)) ?_;(conv=>whnf);refine andI h (fun _ h=>?_) (fun _ h=>?_)
  · (conv=>whnf);obtain rfl:=Option.some.inj h;exact lfE [.f [9000]]
  · (conv=>whnf);obtain ⟨x4,hx4,h⟩:=bd_some h;obtain ⟨x5,hx5,h⟩:=bd_some h;refine draw_t tOk [.r 6 [(9000,.arr 107 5 a0.Radio.length (rows TreeWord.enc a0.Radio))] (.agg [.d (.int .i64 x4.Link),.d (.int .i64 x4.End),.d (.int .i64 x4.Vector.Root),.d (.int .i64 x4.Vector.Cost),.d (.int .i64 x4.Vector.Age)]) [],.e 7 [(9000,.arr 107 5 a0.Radio.length (rows TreeWord.enc a0.Radio))] (.agg [.d (slD TreeBridge.enc x5.Bridges),.d (slD TreeLink.enc x5.Links),.d (slD encInt x5.Down),.d (slD TreeSlot.enc x5.AtA),.d (slD TreeSlot.enc x5.AtB),.osl 6001 0 x5.Radio.length]) [(6001,.arr 107 5 x5.Radio.length (rows TreeWord.enc x5.Radio))] []] 8 [] [0,0,0,4,0,16,62,127] [255] [9000] ?_;(conv=>whnf);refine And.intro (eD [(9000,9000)] 0 ((spec_l83Word_c hx4).effV (args:=[.agg [.d (slD TreeBridge.enc a0.Bridges),.d (slD TreeLink.enc a0.Links),.d (slD encInt a0.Down),.d (slD TreeSlot.enc a0.AtA),.d (slD TreeSlot.enc a0.AtB),.osl 9000 0 a0.Radio.length],.d (.int .i64 a1.At),.d (.int .i64 a1.End)]) (bs:=[(9000,.arr 107 5 a0.Radio.length (rows TreeWord.enc a0.Radio))]) rfl (by kernel_rfl) rfl rfl rfl)) ?_;(conv=>whnf);refine And.intro (eD [(9000,9000)] 1000 (spec_l83Put_c hx5)) ?_;(conv=>whnf);refine And.intro (by kernel_rfl) ?_;(conv=>whnf);obtain rfl:=Option.some.inj h;exact lfE [.f [6001]]
noncomputable def spec_l83Out_m (a0:TreeWorld) (a1:Int):Option (TreeWorld) :=
 gd ((0:Int)≤(0:Int)∧(0:Int)≤a1∧a1≤((a0.Radio.length:Nat):Int)) <|
 gd (((0)+(a1.toNat)) * (40+1)≤70368744177664) <|
 gd ((0:Int)≤IntKind.i64.wrap (a1+1)∧IntKind.i64.wrap (a1+1)≤((a0.Radio.length:Nat):Int)∧((a0.Radio.length:Nat):Int)≤((a0.Radio.length:Nat):Int)) <|
 gd ((((a0.Radio.take a1.toNat).length)+((dsub ((a0.Radio.length:Nat):Int) (IntKind.i64.wrap (a1+1))))) * (40+1)≤70368744177664) <|
 some ({ a0 with Radio:=((a0.Radio.take a1.toNat) ++ (((a0.Radio).take ((IntKind.i64.wrap (a1+1)).toNat+(dsub ((a0.Radio.length:Nat):Int) (IntKind.i64.wrap (a1+1))))).drop ((IntKind.i64.wrap (a1+1)).toNat))) })
theorem spec_l83Out_c {a0:TreeWorld} {a1:Int} {r:TreeWorld} (h:spec_l83Out_m a0 a1 = some r):EffC Tryz.prog 137 [.agg [.d (slD TreeBridge.enc a0.Bridges),.d (slD TreeLink.enc a0.Links),.d (slD encInt a0.Down),.d (slD TreeSlot.enc a0.AtA),.d (slD TreeSlot.enc a0.AtB),.d (slD TreeWord.enc a0.Radio)],.d (.int .i64 a1)] [] (.agg [.d (slD TreeBridge.enc r.Bridges),.d (slD TreeLink.enc r.Links),.d (slD encInt r.Down),.d (slD TreeSlot.enc r.AtA),.d (slD TreeSlot.enc r.AtB),.osl 5001 0 r.Radio.length]) [(5001,.arr 107 5 r.Radio.length (rows TreeWord.enc r.Radio))]:=by
  refine effC_x tOk (fn:=Tryz.f137) (c:=codeOf Tryz.f137) rfl rfl ?_;unfold spec_l83Out_m at h;(conv=>whnf);obtain ⟨g1,h⟩:=gd_some h;obtain ⟨g2,h⟩:=gd_some h;obtain ⟨g3,h⟩:=gd_some h;refine draw_u tOk [] 11 [] [0,0,2,0,14,31,0,64,0,256,960] [2047,4095,8191] ?_;(conv=>whnf);refine And.intro ⟨g1,.inr rfl⟩ ?_;(conv=>whnf);refine And.intro g2 ?_;clear g2;refine appN (enc:=TreeWord.enc) (ys:=a0.Radio.take a1.toNat) ?_;(conv=>whnf);refine And.intro ⟨g3,.inr rfl⟩ ?_;(conv=>whnf);refine And.intro (by kernel_rfl) ?_;(conv=>whnf);refine gdI h (fun h=>?_);refine appS (enc:=TreeWord.enc) (xs:=(a0.Radio.take a1.toNat)) (ys:=((a0.Radio).take ((IntKind.i64.wrap (a1+1)).toNat+(dsub ((a0.Radio.length:Nat):Int) (IntKind.i64.wrap (a1+1))))).drop ((IntKind.i64.wrap (a1+1)).toNat)) ?_;(conv=>whnf);obtain rfl:=Option.some.inj h;exact lfE [.s [(10,5001),(5001,10)]]
noncomputable def spec_l82Self_m (a0:Int):Option (TreeMind) :=
 some (⟨(⟨a0,0,0⟩:TreeVector),-1⟩:TreeMind)
theorem spec_l82Self_c {a0:Int} {r:TreeMind} (h:spec_l82Self_m a0 = some r):PureC Tryz.prog 140 [.d (.int .i64 a0)] (.agg [.d (.int .i64 r.Vector.Root),.d (.int .i64 r.Vector.Cost),.d (.int .i64 r.Vector.Age),.d (.int .i64 r.Link)]) []:=by
  refine pureC_x tOk (fn:=Tryz.f140) (c:=codeOf Tryz.f140) rfl rfl ?_;unfold spec_l82Self_m at h;(conv=>whnf);obtain rfl:=Option.some.inj h;exact lfP []
noncomputable def spec_l82At_m (a0:TreeWorld) (a1:Int) (a2:Int):Option (TreeVector × Int) :=
 gd ((0:Int)≤a2∧a2<((a0.Links.length:Nat):Int)) <|
(if (a1 == ((a0.Links.getD a2.toNat default).A)) = true then
 gd ((0:Int)≤a2∧a2<((a0.AtA.length:Nat):Int)) <|
 some (((a0.AtA.getD a2.toNat default).Vector),(a0.Links.getD a2.toNat default).B)
else
(if (a1 == ((a0.Links.getD a2.toNat default).B)) = true then
 gd ((0:Int)≤a2∧a2<((a0.AtB.length:Nat):Int)) <|
 some (((a0.AtB.getD a2.toNat default).Vector),(a0.Links.getD a2.toNat default).A)
else
 some ((⟨0,0,0⟩:TreeVector),-1)))
theorem spec_l82At_c {a0:TreeWorld} {a1:Int} {a2:Int} {r:TreeVector × Int} (h:spec_l82At_m a0 a1 a2 = some r):PureC Tryz.prog 153 [.agg [.d (slD TreeBridge.enc a0.Bridges),.d (slD TreeLink.enc a0.Links),.d (slD encInt a0.Down),.d (slD TreeSlot.enc a0.AtA),.d (slD TreeSlot.enc a0.AtB),.d (slD TreeWord.enc a0.Radio)],.d (.int .i64 a1),.d (.int .i64 a2)] (.tup [.agg [.d (.int .i64 r.1.Root),.d (.int .i64 r.1.Cost),.d (.int .i64 r.1.Age)],.d (.int .i64 r.2)]) []:=by
  refine pureC_x tOk (fn:=Tryz.f153) (c:=codeOf Tryz.f153) rfl rfl ?_;unfold spec_l82At_m at h;(conv=>whnf);refine gdI h (fun h=>?_);(conv=>whnf);refine seq_in tOk ?_;(conv=>whnf);refine andI h (fun _ h=>?_) (fun _ h=>?_)
  · (conv=>whnf);obtain ⟨g2,h⟩:=gd_some h;refine draw_t tOk [.a 8 [(6,.box 38 [.d (.int .i64 0),.d (.int .i64 0),.d (.int .i64 0)])] (.any) [(6,.box 38 [.d (.int .i64 (((a0.AtA.getD a2.toNat default).Vector).Root)),.d (.int .i64 (((a0.AtA.getD a2.toNat default).Vector).Cost)),.d (.int .i64 (((a0.AtA.getD a2.toNat default).Vector).Age))])]] 10 [] [0,1,0,7,15,31,0,64,63,511] [] [6] ?_;(conv=>whnf);refine And.intro g2 ?_;clear g2;(conv=>whnf);refine And.intro (by (conv=>whnf); exact ⟨rfl,rfl⟩) ?_;(conv=>whnf);refine And.intro (by kernel_rfl) ?_;(conv=>whnf);obtain rfl:=Option.some.inj h;exact lfP []
  · (conv=>whnf);refine andI h (fun _ h=>?_) (fun _ h=>?_)
    · (conv=>whnf);obtain ⟨g3,h⟩:=gd_some h;refine draw_t tOk [.a 8 [(6,.box 38 [.d (.int .i64 0),.d (.int .i64 0),.d (.int .i64 0)])] (.any) [(6,.box 38 [.d (.int .i64 (((a0.AtB.getD a2.toNat default).Vector).Root)),.d (.int .i64 (((a0.AtB.getD a2.toNat default).Vector).Cost)),.d (.int .i64 (((a0.AtB.getD a2.toNat default).Vector).Age))])]] 10 [] [0,1,0,7,15,31,0,64,63,511] [] [6] ?_;(conv=>whnf);refine And.intro g3 ?_;clear g3;(conv=>whnf);refine And.intro (by (conv=>whnf); exact ⟨rfl,rfl⟩) ?_;(conv=>whnf);refine And.intro (by kernel_rfl) ?_;(conv=>whnf);obtain rfl:=Option.some.inj h;exact lfP []
    · (conv=>whnf);obtain rfl:=Option.some.inj h;exact lfP []
noncomputable def spec_l82Far_m (a0:TreeVector) (a1:Int):Option (TreeVector) :=
(if (((a0.Root == 0) || (a0.Age == 10)) || (decide ((IntKind.i64.wrap (a0.Cost+a1)) > 1000))) = true then
 some (⟨0,0,0⟩:TreeVector)
else
 some (⟨a0.Root,IntKind.i64.wrap (a0.Cost+a1),IntKind.i64.wrap (a0.Age+1)⟩:TreeVector))
theorem spec_l82Far_c {a0:TreeVector} {a1:Int} {r:TreeVector} (h:spec_l82Far_m a0 a1 = some r):PureC Tryz.prog 154 [.agg [.d (.int .i64 a0.Root),.d (.int .i64 a0.Cost),.d (.int .i64 a0.Age)],.d (.int .i64 a1)] (.agg [.d (.int .i64 r.Root),.d (.int .i64 r.Cost),.d (.int .i64 r.Age)]) []:=by
  refine pureC_x tOk (fn:=Tryz.f154) (c:=codeOf Tryz.f154) rfl rfl ?_;unfold spec_l82Far_m at h;(conv=>whnf);refine seq_in tOk ?_;(conv=>whnf);refine andI h (fun _ h=>?_) (fun _ h=>?_)
  · (conv=>whnf);obtain rfl:=Option.some.inj h;exact lfP []
  · (conv=>whnf);obtain rfl:=Option.some.inj h;exact lfP []
noncomputable def spec_l82Better_m (a0:TreeVector) (a1:Int) (a2:TreeVector) (a3:Int):Option (Bool) :=
(if (a0.Root != a2.Root) = true then
 some (decide (a0.Root<a2.Root))
else
(if (a0.Cost != a2.Cost) = true then
 some (decide (a0.Cost<a2.Cost))
else
 some (decide (a1<a3))))
theorem spec_l82Better_c {a0:TreeVector} {a1:Int} {a2:TreeVector} {a3:Int} {r:Bool} (h:spec_l82Better_m a0 a1 a2 a3 = some r):PureC Tryz.prog 155 [.agg [.d (.int .i64 a0.Root),.d (.int .i64 a0.Cost),.d (.int .i64 a0.Age)],.d (.int .i64 a1),.agg [.d (.int .i64 a2.Root),.d (.int .i64 a2.Cost),.d (.int .i64 a2.Age)],.d (.int .i64 a3)] (.d (.bool r)) []:=by
  refine pureC_x tOk (fn:=Tryz.f155) (c:=codeOf Tryz.f155) rfl rfl ?_;unfold spec_l82Better_m at h;(conv=>whnf);refine seq_in tOk ?_;(conv=>whnf);refine andI h (fun _ h=>?_) (fun _ h=>?_)
  · (conv=>whnf);obtain rfl:=Option.some.inj h;exact lfP []
  · (conv=>whnf);refine seq_in tOk ?_;(conv=>whnf);refine andI h (fun _ h=>?_) (fun _ h=>?_)
    · (conv=>whnf);obtain rfl:=Option.some.inj h;exact lfP []
    · (conv=>whnf);obtain rfl:=Option.some.inj h;exact lfP []
noncomputable def spec_l82Think_m (a0:TreeWorld) (a1:Int):Option (TreeMind) :=
 gd ((0:Int)≤a1∧a1<((a0.Bridges.length:Nat):Int)) <|
 bd (spec_l82Self_m ((a0.Bridges.getD a1.toNat default).Id)) fun x2 =>
 bd (lp (σ:=Int × Int × Int × Int × Int × Int) (β:=(Int × Int × Int × Int)) (fun s3 =>
(if (decide (s3.2.2.2.2.2<((a0.Links.length:Nat):Int))) = true then
 bd (spec_l82At_m a0 a1 s3.2.2.2.2.2) fun x7 =>
(if (decide (x7.2<0)) = true then
 some (.inl (s3.1,s3.2.1,s3.2.2.1,s3.2.2.2.1,s3.2.2.2.2.1,IntKind.i64.wrap (s3.2.2.2.2.2+1)))
else
 gd ((0:Int)≤s3.2.2.2.2.2∧s3.2.2.2.2.2<((a0.Links.length:Nat):Int)) <|
 bd (spec_l82Far_m x7.1 ((a0.Links.getD s3.2.2.2.2.2.toNat default).Cost)) fun x9 =>
 gd ((decide (x9.Root > 0)) = true → ((0:Int)≤x7.2∧x7.2<((a0.Bridges.length:Nat):Int))) <|
 bd (gcall ((decide (x9.Root > 0)) = true) (spec_l82Better_m x9 ((a0.Bridges.getD x7.2.toNat default).Id) (⟨s3.1,s3.2.1,s3.2.2.1⟩:TreeVector) s3.2.2.2.2.1)) fun x11 =>
(if ((decide (x9.Root > 0)) && x11) = true then
 gd ((0:Int)≤x7.2∧x7.2<((a0.Bridges.length:Nat):Int)) <|
 some (.inl (x9.Root,x9.Cost,x9.Age,s3.2.2.2.2.2,(a0.Bridges.getD x7.2.toNat default).Id,IntKind.i64.wrap (s3.2.2.2.2.2+1)))
else
 some (.inl (s3.1,s3.2.1,s3.2.2.1,s3.2.2.2.1,s3.2.2.2.2.1,IntKind.i64.wrap (s3.2.2.2.2.2+1)))))
else
 some (.inr (s3.1,s3.2.1,s3.2.2.1,s3.2.2.2.1)))) (x2.Vector.Root,x2.Vector.Cost,x2.Vector.Age,x2.Link,0,0)) fun x6 =>
 some (⟨(⟨x6.1,x6.2.1,x6.2.2.1⟩:TreeVector),x6.2.2.2⟩:TreeMind)
theorem spec_l82Think_c {a0:TreeWorld} {a1:Int} {r:TreeMind} (h:spec_l82Think_m a0 a1 = some r):PureC Tryz.prog 151 [.agg [.d (slD TreeBridge.enc a0.Bridges),.d (slD TreeLink.enc a0.Links),.d (slD encInt a0.Down),.d (slD TreeSlot.enc a0.AtA),.d (slD TreeSlot.enc a0.AtB),.d (slD TreeWord.enc a0.Radio)],.d (.int .i64 a1)] (.agg [.d (.int .i64 r.Vector.Root),.d (.int .i64 r.Vector.Cost),.d (.int .i64 r.Vector.Age),.d (.int .i64 r.Link)]) []:=by
  refine pureC_x tOk (fn:=Tryz.f151) (c:=codeOf Tryz.f151) rfl rfl ?_;unfold spec_l82Think_m at h;(conv=>whnf);refine gdI h (fun h=>?_);(conv=>whnf);obtain ⟨x2,hx2,h⟩:=bd_some h;refine cC 0 (spec_l82Self_c hx2) ?_;clear hx2;(conv=>whnf);refine seq_in tOk ?_;(conv=>whnf);obtain ⟨x6,hx6,h⟩:=bd_some h;refine loop_m tOk hx6 (fun s3=>⟨0,68,[(1,.d (.int .i64 a1)),(2,.ref 2 0 0),(4,.ref 4 0 0),(5,.ref 5 0 0),(6,.d (.int .i64 s3.2.2.2.2.1)),(7,.d (.int .i64 s3.2.2.2.2.2))],[],[(5,.box 40 [.d (.int .i64 s3.1),.d (.int .i64 s3.2.1),.d (.int .i64 s3.2.2.1),.d (.int .i64 s3.2.2.2.1)]),(4,.box 40 [.d (.int .i64 0),.d (.int .i64 0),.d (.int .i64 0),.d (.int .i64 0)]),(2,.box 29 [.d (slD TreeBridge.enc a0.Bridges),.d (slD TreeLink.enc a0.Links),.d (slD encInt a0.Down),.d (slD TreeSlot.enc a0.AtA),.d (slD TreeSlot.enc a0.AtB),.d (slD TreeWord.enc a0.Radio)])],[]⟩) ?_ ?_
  · exact leX []
  · clear hx6;intro s3 y4 g5 hy4;(conv=>whnf);refine seq_in tOk ?_;(conv=>whnf);refine andI g5 (fun _ g5=>?_) (fun _ g5=>?_)
    · (conv=>whnf);refine seq_in tOk ?_;(conv=>whnf);obtain ⟨x7,hx7,g5⟩:=bd_some g5;refine cC 0 (spec_l82At_c hx7) ?_;clear hx7;(conv=>whnf);refine seq_in tOk ?_;(conv=>whnf);refine andI g5 (fun _ g5=>?_) (fun _ g5=>?_)
      · (conv=>whnf);obtain rfl:=Option.some.inj g5;exact ⟨_,rfl,leX []⟩
      · (conv=>whnf);obtain ⟨g8,g5⟩:=gd_some g5;obtain ⟨x9,hx9,g5⟩:=bd_some g5;refine draw_u tOk [.u 7 0 (.agg [.d (.int .i64 x9.Root),.d (.int .i64 x9.Cost),.d (.int .i64 x9.Age)]) []] 9 [] [0,0,2,0,14,30,62,127,0] [511] ?_;(conv=>whnf);refine And.intro g8 ?_;clear g8;(conv=>whnf);refine And.intro (callD_any (spec_l82Far_c hx9) (by kernel_rfl)) ?_;(conv=>whnf);refine And.intro (by kernel_rfl) ?_;(conv=>whnf);obtain ⟨g10,g5⟩:=gd_some g5;obtain ⟨x11,hx11,g5⟩:=bd_some g5;refine draw_u tOk [.u 14 0 (.d (.bool x11)) []] 16 [] [0,1,3,7,15,15,47,15,239,495,1007,15,2063,15,16383,32767] [] ?_;(conv=>whnf);refine And.intro g10 ?_;clear g10;(conv=>whnf);refine And.intro (callDG_if rfl rfl rfl rfl (by intro c0; exact spec_l82Better_c (gcall_some hx11 c0))) ?_;(conv=>whnf);refine And.intro (by kernel_rfl) ?_;(conv=>whnf);refine andI g5 (fun _ g5=>?_) (fun _ g5=>?_)
        · (conv=>whnf);refine gdI g5 (fun g5=>?_);(conv=>whnf);obtain rfl:=Option.some.inj g5;exact ⟨_,rfl,leX []⟩
        · (conv=>whnf);obtain rfl:=Option.some.inj g5;exact ⟨_,rfl,leX []⟩
    · (conv=>whnf);obtain rfl:=Option.some.inj g5;obtain rfl:=hy4 _ rfl;obtain rfl:=Option.some.inj h;exact lfP []
noncomputable def spec_l83Thinks_m (a0:TreeWorld) (a1:Int):Option (TreeWorld) :=
 gd ((0:Int)≤a1∧a1<((a0.Bridges.length:Nat):Int)) <|
(if (a0.Bridges.getD a1.toNat default).Up = true then
 bd (spec_l82Think_m a0 a1) fun x2 =>
 gd ((0:Int)≤a1∧a1<((a0.Bridges.length:Nat):Int)) <|
 some ({ a0 with Bridges:=a0.Bridges.set a1.toNat ({ (a0.Bridges.getD a1.toNat default) with Mind:=x2 }) })
else
 some a0)
theorem spec_l83Thinks_c {a0:TreeWorld} {a1:Int} {r:TreeWorld} (h:spec_l83Thinks_m a0 a1 = some r):EffC Tryz.prog 139 [.agg [.osl 9000 0 a0.Bridges.length,.d (slD TreeLink.enc a0.Links),.d (slD encInt a0.Down),.d (slD TreeSlot.enc a0.AtA),.d (slD TreeSlot.enc a0.AtB),.d (slD TreeWord.enc a0.Radio)],.d (.int .i64 a1)] [(9000,.arr 42 6 a0.Bridges.length (rows TreeBridge.enc a0.Bridges))] (.agg [.osl 5001 0 r.Bridges.length,.d (slD TreeLink.enc r.Links),.d (slD encInt r.Down),.d (slD TreeSlot.enc r.AtA),.d (slD TreeSlot.enc r.AtB),.d (slD TreeWord.enc r.Radio)]) [(5001,.arr 42 6 r.Bridges.length (rows TreeBridge.enc r.Bridges))]:=by
  refine effC_x tOk (fn:=Tryz.f139) (c:=codeOf Tryz.f139) rfl rfl ?_;unfold spec_l83Thinks_m at h;(conv=>whnf);refine seq_in tOk ?_;(conv=>whnf);refine gdI h (fun h=>?_);(conv=>whnf);refine andI h (fun _ h=>?_) (fun _ h=>?_)
  · (conv=>whnf);obtain ⟨x2,hx2,h⟩:=bd_some h;obtain ⟨g3,h⟩:=gd_some h;refine draw_u tOk [.u 5 0 (.agg [.d (.int .i64 x2.Vector.Root),.d (.int .i64 x2.Vector.Cost),.d (.int .i64 x2.Vector.Age),.d (.int .i64 x2.Link)]) []] 8 [] [0,1,0,0,0,24,63,127] [255] ?_;(conv=>whnf);refine And.intro (callD_any (spec_l82Think_c hx2) (by kernel_rfl)) ?_;(conv=>whnf);refine And.intro g3 ?_;clear g3;(conv=>whnf);refine And.intro (by kernel_rfl) ?_;(conv=>whnf);refine ⟨rows TreeBridge.enc (a0.Bridges.set a1.toNat ({ (a0.Bridges.getD a1.toNat default) with Mind:=x2 })),store_rows' lenA rfl,?_⟩;(conv=>whnf);obtain rfl:=Option.some.inj h;exact lfE [.s [(5001,9000),(9000,5001)]]
  · (conv=>whnf);obtain rfl:=Option.some.inj h;exact lfE [.s [(5001,9000),(9000,5001)]]
noncomputable def spec_l83Hear_m (a0:TreeWorld) (a1:TreeWord):Option (TreeWorld) :=
 bd (spec_l83End_m a0 a1.Link a1.End) fun x1 =>
 bd (spec_l82Has_m a0.Down a1.Link) fun x2 =>
 gd (x2 = false → ((0:Int)≤x1∧x1<((a0.Bridges.length:Nat):Int))) <|
(if (x2 || (!((a0.Bridges.getD x1.toNat default).Up))) = true then
 some a0
else
(if (a1.End == 0) = true then
 gd ((0:Int)≤a1.Link∧a1.Link<((a0.AtA.length:Nat):Int)) <|
 bd (spec_l83Thinks_m ({ a0 with AtA:=a0.AtA.set a1.Link.toNat (⟨a1.Vector,3⟩:TreeSlot) }) x1) fun x5 =>
 some x5
else
 gd ((0:Int)≤a1.Link∧a1.Link<((a0.AtB.length:Nat):Int)) <|
 bd (spec_l83Thinks_m ({ a0 with AtB:=a0.AtB.set a1.Link.toNat (⟨a1.Vector,3⟩:TreeSlot) }) x1) fun x7 =>
 some x7))
theorem spec_l83Hear_c {a0:TreeWorld} {a1:TreeWord} {r:TreeWorld} (h:spec_l83Hear_m a0 a1 = some r):EffC Tryz.prog 136 [.agg [.osl 9000 0 a0.Bridges.length,.d (slD TreeLink.enc a0.Links),.d (slD encInt a0.Down),.osl 9001 0 a0.AtA.length,.osl 9002 0 a0.AtB.length,.d (slD TreeWord.enc a0.Radio)],.agg [.d (.int .i64 a1.Link),.d (.int .i64 a1.End),.d (.int .i64 a1.Vector.Root),.d (.int .i64 a1.Vector.Cost),.d (.int .i64 a1.Vector.Age)]] [(9000,.arr 42 6 a0.Bridges.length (rows TreeBridge.enc a0.Bridges)),(9001,.arr 113 4 a0.AtA.length (rows TreeSlot.enc a0.AtA)),(9002,.arr 113 4 a0.AtB.length (rows TreeSlot.enc a0.AtB))] (.agg [.d (slD TreeBridge.enc r.Bridges),.d (slD TreeLink.enc r.Links),.d (slD encInt r.Down),.d (slD TreeSlot.enc r.AtA),.d (slD TreeSlot.enc r.AtB),.d (slD TreeWord.enc r.Radio)]) []:=by
  refine effC_x tOk (fn:=Tryz.f136) (c:=codeOf Tryz.f136) rfl rfl ?_;unfold spec_l83Hear_m at h;(conv=>whnf);obtain ⟨x1,hx1,h⟩:=bd_some h;refine cC 0 (spec_l83End_c hx1) ?_;clear hx1;(conv=>whnf);refine seq_in tOk ?_;(conv=>whnf);obtain ⟨x2,hx2,h⟩:=bd_some h;refine cC 0 (spec_l82Has_c hx2) ?_;clear hx2;(conv=>whnf);refine gdI h (fun h=>?_);(conv=>whnf);refine andI h (fun _ h=>?_) (fun _ h=>?_)
  · (conv=>whnf);obtain rfl:=Option.some.inj h;exact lfE [.f [9000,9001,9002]]
  · (conv=>whnf);refine seq_in tOk ?_;(conv=>whnf);refine andI h (fun _ h=>?_) (fun _ h=>?_)
    · (conv=>whnf);refine gdI h (fun h=>?_);(conv=>whnf);refine ⟨rows TreeSlot.enc (a0.AtA.set a1.Link.toNat (⟨a1.Vector,3⟩:TreeSlot)),store_rows' lenA rfl,?_⟩;(conv=>whnf);obtain ⟨x5,hx5,h⟩:=bd_some h;refine callFz [9001,9002] ?_;(conv=>whnf);refine cE [(9000,9000)] 1000 (spec_l83Thinks_c hx5) ?_;(conv=>whnf);obtain rfl:=Option.some.inj h;exact lfE [.f [6001]]
    · (conv=>whnf);refine gdI h (fun h=>?_);(conv=>whnf);refine ⟨rows TreeSlot.enc (a0.AtB.set a1.Link.toNat (⟨a1.Vector,3⟩:TreeSlot)),store_rows' lenA rfl,?_⟩;(conv=>whnf);obtain ⟨x7,hx7,h⟩:=bd_some h;refine callFz [9001,9002] ?_;(conv=>whnf);refine cE [(9000,9000)] 1000 (spec_l83Thinks_c hx7) ?_;(conv=>whnf);obtain rfl:=Option.some.inj h;exact lfE [.f [6001]]
noncomputable def spec_l83Out_o00_03_04_05f_m (a0:TreeWorld) (a1:Int):Option (TreeWorld) :=
 gd ((0:Int)≤(0:Int)∧(0:Int)≤a1∧a1≤((a0.Radio.length:Nat):Int)) <|
 gd (((0)+(a1.toNat)) * (40+1)≤70368744177664) <|
 gd ((0:Int)≤IntKind.i64.wrap (a1+1)∧IntKind.i64.wrap (a1+1)≤((a0.Radio.length:Nat):Int)∧((a0.Radio.length:Nat):Int)≤((a0.Radio.length:Nat):Int)) <|
 gd ((((a0.Radio.take a1.toNat).length)+((dsub ((a0.Radio.length:Nat):Int) (IntKind.i64.wrap (a1+1))))) * (40+1)≤70368744177664) <|
 some ({ a0 with Radio:=((a0.Radio.take a1.toNat) ++ (((a0.Radio).take ((IntKind.i64.wrap (a1+1)).toNat+(dsub ((a0.Radio.length:Nat):Int) (IntKind.i64.wrap (a1+1))))).drop ((IntKind.i64.wrap (a1+1)).toNat))) })
theorem spec_l83Out_o00_03_04_05f_c {a0:TreeWorld} {a1:Int} {r:TreeWorld} (h:spec_l83Out_o00_03_04_05f_m a0 a1 = some r):EffC Tryz.prog 137 [.agg [.osl 9000 0 a0.Bridges.length,.d (slD TreeLink.enc a0.Links),.d (slD encInt a0.Down),.osl 9001 0 a0.AtA.length,.osl 9002 0 a0.AtB.length,.d (slD TreeWord.enc a0.Radio)],.d (.int .i64 a1)] [(9000,.arr 42 6 a0.Bridges.length (rows TreeBridge.enc a0.Bridges)),(9001,.arr 113 4 a0.AtA.length (rows TreeSlot.enc a0.AtA)),(9002,.arr 113 4 a0.AtB.length (rows TreeSlot.enc a0.AtB))] (.agg [.osl 5001 0 r.Bridges.length,.d (slD TreeLink.enc r.Links),.d (slD encInt r.Down),.osl 5002 0 r.AtA.length,.osl 5003 0 r.AtB.length,.d (slD TreeWord.enc r.Radio)]) [(5001,.arr 42 6 r.Bridges.length (rows TreeBridge.enc r.Bridges)),(5002,.arr 113 4 r.AtA.length (rows TreeSlot.enc r.AtA)),(5003,.arr 113 4 r.AtB.length (rows TreeSlot.enc r.AtB))]:=by
  refine effC_x tOk (fn:=Tryz.f137) (c:=codeOf Tryz.f137) rfl rfl ?_;unfold spec_l83Out_o00_03_04_05f_m at h;(conv=>whnf);obtain ⟨g1,h⟩:=gd_some h;obtain ⟨g2,h⟩:=gd_some h;obtain ⟨g3,h⟩:=gd_some h;refine draw_u tOk [] 11 [] [0,0,2,0,14,31,0,64,0,256,960] [2047,4095,8191] ?_;(conv=>whnf);refine And.intro ⟨g1,.inr rfl⟩ ?_;(conv=>whnf);refine And.intro g2 ?_;clear g2;refine appN (enc:=TreeWord.enc) (ys:=a0.Radio.take a1.toNat) ?_;(conv=>whnf);refine And.intro ⟨g3,.inr rfl⟩ ?_;(conv=>whnf);refine And.intro (by kernel_rfl) ?_;(conv=>whnf);refine gdI h (fun h=>?_);refine appS (enc:=TreeWord.enc) (xs:=(a0.Radio.take a1.toNat)) (ys:=((a0.Radio).take ((IntKind.i64.wrap (a1+1)).toNat+(dsub ((a0.Radio.length:Nat):Int) (IntKind.i64.wrap (a1+1))))).drop ((IntKind.i64.wrap (a1+1)).toNat)) ?_;(conv=>whnf);obtain rfl:=Option.some.inj h;exact lfE [.f [10],.s [(5001,9000),(5002,9001),(5003,9002),(9000,5001),(9001,5002),(9002,5003)]]
noncomputable def spec_l83Words_m (a0:TreeWorld) (a1:TreeEvent):Option (TreeWorld) :=
 bd (spec_l81In_m a1.At 0 (IntKind.i64.wrap (((a0.Radio.length:Nat):Int) - 1))) fun x1 =>
(if (!x1) = true then
 some a0
else
 gd ((0:Int)≤a1.At∧a1.At<((a0.Radio.length:Nat):Int)) <|
(if (a1.Kind == 2) = true then
 bd (spec_l83Out_o00_03_04_05f_m a0 a1.At) fun x3 =>
 bd (spec_l83Hear_m x3 ({ (a0.Radio.getD a1.At.toNat default) with Vector:=((a0.Radio.getD a1.At.toNat default).Vector) })) fun x4 =>
 some x4
else
(if (a1.Kind == 3) = true then
 bd (spec_l83Put_m a0 ({ (a0.Radio.getD a1.At.toNat default) with Vector:=((a0.Radio.getD a1.At.toNat default).Vector) })) fun x5 =>
 some x5
else
 bd (spec_l83Out_m a0 a1.At) fun x6 =>
 some x6)))
theorem spec_l83Words_c {a0:TreeWorld} {a1:TreeEvent} {r:TreeWorld} (h:spec_l83Words_m a0 a1 = some r):EffC Tryz.prog 99 [.agg [.osl 9000 0 a0.Bridges.length,.d (slD TreeLink.enc a0.Links),.d (slD encInt a0.Down),.osl 9001 0 a0.AtA.length,.osl 9002 0 a0.AtB.length,.osl 9003 0 a0.Radio.length],.agg [.d (.int .i64 a1.Kind),.d (.int .i64 a1.At),.d (.int .i64 a1.End)]] [(9000,.arr 42 6 a0.Bridges.length (rows TreeBridge.enc a0.Bridges)),(9001,.arr 113 4 a0.AtA.length (rows TreeSlot.enc a0.AtA)),(9002,.arr 113 4 a0.AtB.length (rows TreeSlot.enc a0.AtB)),(9003,.arr 107 5 a0.Radio.length (rows TreeWord.enc a0.Radio))] (.agg [.d (slD TreeBridge.enc r.Bridges),.d (slD TreeLink.enc r.Links),.d (slD encInt r.Down),.d (slD TreeSlot.enc r.AtA),.d (slD TreeSlot.enc r.AtB),.d (slD TreeWord.enc r.Radio)]) []:=by
  refine effC_x tOk (fn:=Tryz.f99) (c:=codeOf Tryz.f99) rfl rfl ?_;unfold spec_l83Words_m at h;(conv=>whnf);refine seq_in tOk ?_;(conv=>whnf);obtain ⟨x1,hx1,h⟩:=bd_some h;refine cC 0 (spec_l81In_c hx1) ?_;clear hx1;(conv=>whnf);refine andI h (fun _ h=>?_) (fun _ h=>?_)
  · (conv=>whnf);obtain rfl:=Option.some.inj h;exact lfE [.f [9000,9001,9002,9003]]
  · (conv=>whnf);refine gdI h (fun h=>?_);(conv=>whnf);refine seq_in tOk ?_;(conv=>whnf);refine andI h (fun _ h=>?_) (fun _ h=>?_)
    · (conv=>whnf);obtain ⟨x3,hx3,h⟩:=bd_some h;obtain ⟨x4,hx4,h⟩:=bd_some h;refine drawFz [9003] ?_;(conv=>whnf);refine draw_t tOk [.e 3 [(9000,.arr 42 6 a0.Bridges.length (rows TreeBridge.enc a0.Bridges)),(9001,.arr 113 4 a0.AtA.length (rows TreeSlot.enc a0.AtA)),(9002,.arr 113 4 a0.AtB.length (rows TreeSlot.enc a0.AtB))] (.agg [.osl 6001 0 x3.Bridges.length,.d (slD TreeLink.enc x3.Links),.d (slD encInt x3.Down),.osl 6002 0 x3.AtA.length,.osl 6003 0 x3.AtB.length,.d (slD TreeWord.enc x3.Radio)]) [] [(6001,.arr 42 6 x3.Bridges.length (rows TreeBridge.enc x3.Bridges)),(6002,.arr 113 4 x3.AtA.length (rows TreeSlot.enc x3.AtA)),(6003,.arr 113 4 x3.AtB.length (rows TreeSlot.enc x3.AtB))],.e 5 [(6001,.arr 42 6 x3.Bridges.length (rows TreeBridge.enc x3.Bridges)),(6002,.arr 113 4 x3.AtA.length (rows TreeSlot.enc x3.AtA)),(6003,.arr 113 4 x3.AtB.length (rows TreeSlot.enc x3.AtB))] (.agg [.d (slD TreeBridge.enc x4.Bridges),.d (slD TreeLink.enc x4.Links),.d (slD encInt x4.Down),.d (slD TreeSlot.enc x4.AtA),.d (slD TreeSlot.enc x4.AtB),.d (slD TreeWord.enc x4.Radio)]) [] []] 6 [] [0,0,2,7,0,31] [63] [9000,9001,9002] ?_;(conv=>whnf);refine And.intro (eH [(9000,9000),(9001,9001),(9002,9002)] 1000 (spec_l83Out_o00_03_04_05f_c hx3)) ?_;(conv=>whnf);refine And.intro (eD [(9000,6001),(9001,6002),(9002,6003)] 0 (spec_l83Hear_c hx4)) ?_;(conv=>whnf);refine And.intro (by kernel_rfl) ?_;(conv=>whnf);obtain rfl:=Option.some.inj h;exact lfE []
    · (conv=>whnf);refine andI h (fun _ h=>?_) (fun _ h=>?_)
      · (conv=>whnf);obtain ⟨x5,hx5,h⟩:=bd_some h;refine callFz [9000,9001,9002] ?_;(conv=>whnf);refine cE [(9000,9003)] 1000 (spec_l83Put_c hx5) ?_;(conv=>whnf);obtain rfl:=Option.some.inj h;exact lfE [.f [6001]]
      · (conv=>whnf);obtain ⟨x6,hx6,h⟩:=bd_some h;refine callFz [9000,9001,9002,9003] ?_;(conv=>whnf);refine cE [] 1000 (spec_l83Out_c hx6) ?_;(conv=>whnf);obtain rfl:=Option.some.inj h;exact lfE [.f [6001]]
noncomputable def spec_l83Older_m (a0:TreeSlot):Option (TreeSlot) :=
(if (decide (a0.Left≤1)) = true then
 some (⟨(⟨0,0,0⟩:TreeVector),0⟩:TreeSlot)
else
 some (⟨a0.Vector,IntKind.i64.wrap (a0.Left - 1)⟩:TreeSlot))
theorem spec_l83Older_c {a0:TreeSlot} {r:TreeSlot} (h:spec_l83Older_m a0 = some r):PureC Tryz.prog 138 [.agg [.d (.int .i64 a0.Vector.Root),.d (.int .i64 a0.Vector.Cost),.d (.int .i64 a0.Vector.Age),.d (.int .i64 a0.Left)]] (.agg [.d (.int .i64 r.Vector.Root),.d (.int .i64 r.Vector.Cost),.d (.int .i64 r.Vector.Age),.d (.int .i64 r.Left)]) []:=by
  refine pureC_x tOk (fn:=Tryz.f138) (c:=codeOf Tryz.f138) rfl rfl ?_;unfold spec_l83Older_m at h;(conv=>whnf);refine seq_in tOk ?_;(conv=>whnf);refine andI h (fun _ h=>?_) (fun _ h=>?_)
  · (conv=>whnf);obtain rfl:=Option.some.inj h;exact lfP []
  · (conv=>whnf);obtain rfl:=Option.some.inj h;exact lfP []
noncomputable def spec_l83Tick_m (a0:TreeWorld):Option (TreeWorld) :=
 bd (lp (σ:=List TreeSlot × List TreeSlot × Int) (β:=(Nat × Nat × (List TreeSlot) × (List TreeSlot))) (fun s1 =>
(if (decide (s1.2.2<((a0.Links.length:Nat):Int))) = true then
 gd ((0:Int)≤s1.2.2∧s1.2.2<((s1.1.length:Nat):Int)) <|
 bd (spec_l83Older_m (⟨((s1.1.getD s1.2.2.toNat default).Vector),(s1.1.getD s1.2.2.toNat default).Left⟩:TreeSlot)) fun x6 =>
 gd ((0:Int)≤s1.2.2∧s1.2.2<((s1.1.length:Nat):Int)) <|
 gd ((0:Int)≤s1.2.2∧s1.2.2<((s1.2.1.length:Nat):Int)) <|
 bd (spec_l83Older_m (⟨((s1.2.1.getD s1.2.2.toNat default).Vector),(s1.2.1.getD s1.2.2.toNat default).Left⟩:TreeSlot)) fun x9 =>
 gd ((0:Int)≤s1.2.2∧s1.2.2<((s1.2.1.length:Nat):Int)) <|
 some (.inl (s1.1.set s1.2.2.toNat x6,s1.2.1.set s1.2.2.toNat x9,IntKind.i64.wrap (s1.2.2+1)))
else
 some (.inr (s1.1.length,s1.2.1.length,s1.1,s1.2.1)))) (a0.AtA,a0.AtB,0)) fun x4 =>
 bd (lp (σ:=List TreeBridge × List TreeLink × List Int × List TreeSlot × List TreeSlot × List TreeWord × Int) (β:=(Nat × (List TreeLink) × (List Int) × (List TreeSlot) × (List TreeSlot) × (List TreeWord) × (List TreeBridge))) (fun s12 =>
(if (decide (s12.2.2.2.2.2.2<((s12.1.length:Nat):Int))) = true then
 bd (spec_l83Thinks_m (⟨s12.1,s12.2.1,s12.2.2.1,s12.2.2.2.1,s12.2.2.2.2.1,s12.2.2.2.2.2.1⟩:TreeWorld) s12.2.2.2.2.2.2) fun x16 =>
 some (.inl (x16.Bridges,x16.Links,x16.Down,x16.AtA,x16.AtB,x16.Radio,IntKind.i64.wrap (s12.2.2.2.2.2.2+1)))
else
 some (.inr (s12.1.length,s12.2.1,s12.2.2.1,s12.2.2.2.1,s12.2.2.2.2.1,s12.2.2.2.2.2.1,s12.1)))) (a0.Bridges,a0.Links,a0.Down,x4.2.2.1,x4.2.2.2,a0.Radio,0)) fun x15 =>
 some (⟨x15.2.2.2.2.2.2,x15.2.1,x15.2.2.1,x15.2.2.2.1,x15.2.2.2.2.1,x15.2.2.2.2.2.1⟩:TreeWorld)
theorem spec_l83Tick_c {a0:TreeWorld} {r:TreeWorld} (h:spec_l83Tick_m a0 = some r):EffC Tryz.prog 100 [.agg [.osl 9000 0 a0.Bridges.length,.d (slD TreeLink.enc a0.Links),.d (slD encInt a0.Down),.osl 9001 0 a0.AtA.length,.osl 9002 0 a0.AtB.length,.d (slD TreeWord.enc a0.Radio)]] [(9000,.arr 42 6 a0.Bridges.length (rows TreeBridge.enc a0.Bridges)),(9001,.arr 113 4 a0.AtA.length (rows TreeSlot.enc a0.AtA)),(9002,.arr 113 4 a0.AtB.length (rows TreeSlot.enc a0.AtB))] (.agg [.osl 5001 0 r.Bridges.length,.d (slD TreeLink.enc r.Links),.d (slD encInt r.Down),.d (slD TreeSlot.enc r.AtA),.d (slD TreeSlot.enc r.AtB),.d (slD TreeWord.enc r.Radio)]) [(5001,.arr 42 6 r.Bridges.length (rows TreeBridge.enc r.Bridges))]:=by
  refine effC_x tOk (fn:=Tryz.f100) (c:=codeOf Tryz.f100) rfl rfl ?_;unfold spec_l83Tick_m at h;(conv=>whnf);refine seq_in tOk ?_;(conv=>whnf);obtain ⟨x4,hx4,h⟩:=bd_some h;refine loop_m tOk hx4 (fun s1=>⟨0,43,[(1,.ref 1 0 0),(2,.ref 2 0 0),(3,.d (.int .i64 s1.2.2))],[],[(2,.box 29 [.d (.nil),.d (.nil),.d (.nil),.d (.nil),.d (.nil),.d (.nil)]),(1,.box 29 [.osl 9000 0 a0.Bridges.length,.d (slD TreeLink.enc a0.Links),.d (slD encInt a0.Down),.osl 9001 0 s1.1.length,.osl 9002 0 s1.2.1.length,.d (slD TreeWord.enc a0.Radio)]),(9000,.arr 42 6 a0.Bridges.length (rows TreeBridge.enc a0.Bridges)),(9001,.arr 113 4 s1.1.length (rows TreeSlot.enc s1.1)),(9002,.arr 113 4 s1.2.1.length (rows TreeSlot.enc s1.2.1))],[⟨[],[]⟩]⟩) ?_ ?_
  · exact leX []
  · clear hx4;intro s1 y2 g3 hy2;(conv=>whnf);refine seq_in tOk ?_;(conv=>whnf);refine andI g3 (fun _ g3=>?_) (fun _ g3=>?_)
    · (conv=>whnf);refine seq_in tOk ?_;(conv=>whnf);obtain ⟨g5,g3⟩:=gd_some g3;obtain ⟨x6,hx6,g3⟩:=bd_some g3;obtain ⟨g7,g3⟩:=gd_some g3;refine draw_u tOk [.u 8 0 (.agg [.d (.int .i64 x6.Vector.Root),.d (.int .i64 x6.Vector.Cost),.d (.int .i64 x6.Vector.Age),.d (.int .i64 x6.Left)]) []] 10 [] [0,1,0,0,8,0,56,120,248,511] [1023] ?_;(conv=>whnf);refine And.intro g5 ?_;clear g5;(conv=>whnf);refine And.intro (callD_any (spec_l83Older_c hx6) (by kernel_rfl)) ?_;(conv=>whnf);refine And.intro g7 ?_;clear g7;(conv=>whnf);refine And.intro (by kernel_rfl) ?_;(conv=>whnf);refine ⟨rows TreeSlot.enc (s1.1.set s1.2.2.toNat x6),store_rows' lenA rfl,?_⟩;(conv=>whnf);obtain ⟨g8,g3⟩:=gd_some g3;obtain ⟨x9,hx9,g3⟩:=bd_some g3;obtain ⟨g10,g3⟩:=gd_some g3;refine draw_u tOk [.u 8 0 (.agg [.d (.int .i64 x9.Vector.Root),.d (.int .i64 x9.Vector.Cost),.d (.int .i64 x9.Vector.Age),.d (.int .i64 x9.Left)]) []] 10 [] [0,1,0,0,8,0,56,120,248,511] [1023] ?_;(conv=>whnf);refine And.intro g8 ?_;clear g8;(conv=>whnf);refine And.intro (callD_any (spec_l83Older_c hx9) (by kernel_rfl)) ?_;(conv=>whnf);refine And.intro g10 ?_;clear g10;(conv=>whnf);refine And.intro (by kernel_rfl) ?_;(conv=>whnf);refine ⟨rows TreeSlot.enc (s1.2.1.set s1.2.2.toNat x9),store_rows' lenA rfl,?_⟩;(conv=>whnf);obtain rfl:=Option.some.inj g3;exact ⟨_,rfl,leX []⟩
    · (conv=>whnf);obtain rfl:=Option.some.inj g3;obtain rfl:=hy2 _ rfl;refine seq_in tOk ?_;(conv=>whnf);obtain ⟨x15,hx15,h⟩:=bd_some h;refine loop_m tOk hx15 (fun s12=>⟨0,43,[(1,.ref 1 0 0),(2,.ref 2 0 0),(4,.d (.int .i64 s12.2.2.2.2.2.2))],[],[(2,.box 29 [.d (.nil),.d (.nil),.d (.nil),.d (.nil),.d (.nil),.d (.nil)]),(1,.box 29 [.osl 9000 0 s12.1.length,.d (slD TreeLink.enc s12.2.1),.d (slD encInt s12.2.2.1),.d (slD TreeSlot.enc s12.2.2.2.1),.d (slD TreeSlot.enc s12.2.2.2.2.1),.d (slD TreeWord.enc s12.2.2.2.2.2.1)]),(9000,.arr 42 6 s12.1.length (rows TreeBridge.enc s12.1))],[⟨[],[]⟩]⟩) ?_ ?_
      · exact leX [.f [9001,9002]]
      · clear hx15;intro s12 y13 g14 hy13;(conv=>whnf);refine seq_in tOk ?_;(conv=>whnf);refine andI g14 (fun _ g14=>?_) (fun _ g14=>?_)
        · (conv=>whnf);refine seq_in tOk ?_;(conv=>whnf);obtain ⟨x16,hx16,g14⟩:=bd_some g14;refine cE [(9000,9000)] 1000 (spec_l83Thinks_c hx16) ?_;(conv=>whnf);obtain rfl:=Option.some.inj g14;exact ⟨_,rfl,leX [.s [(6001,9000),(9000,6001)]]⟩
        · (conv=>whnf);obtain rfl:=Option.some.inj g14;obtain rfl:=hy13 _ rfl;obtain rfl:=Option.some.inj h;exact lfE [.s [(5001,9000),(9000,5001)]]
noncomputable def spec_l83Bridge_m (a0:TreeWorld) (a1:TreeEvent):Option (TreeWorld) :=
 bd (spec_l81In_m a1.At 0 (IntKind.i64.wrap (((a0.Bridges.length:Nat):Int) - 1))) fun x1 =>
(if (!x1) = true then
 some a0
else
 gd ((0:Int)≤a1.At∧a1.At<((a0.Bridges.length:Nat):Int)) <|
(if (a1.Kind == 7) = true then
(if (!((a0.Bridges.getD a1.At.toNat default).Up)) = true then
 bd (spec_l82Self_m ((a0.Bridges.getD a1.At.toNat default).Id)) fun x3 =>
 gd ((0:Int)≤a1.At∧a1.At<((a0.Bridges.length:Nat):Int)) <|
 bd (some (a0.Bridges.set a1.At.toNat (⟨(a0.Bridges.getD a1.At.toNat default).Id,true,x3⟩:TreeBridge))) fun x5 =>
 some ({ a0 with Bridges:=x5 })
else
 some a0)
else
 gd ((0:Int)≤a1.At∧a1.At<((a0.Bridges.length:Nat):Int)) <|
 bd (some (a0.Bridges.set a1.At.toNat (⟨(a0.Bridges.getD a1.At.toNat default).Id,false,(⟨(⟨0,0,0⟩:TreeVector),0⟩:TreeMind)⟩:TreeBridge))) fun x7 =>
 bd (lp (σ:=List TreeSlot × List TreeSlot × Int) (β:=(Nat × Nat × (List TreeSlot) × (List TreeSlot))) (fun s8 =>
(if (decide (s8.2.2<((a0.Links.length:Nat):Int))) = true then
 bd (α:=List TreeSlot) (gd ((0:Int)≤s8.2.2∧s8.2.2<((a0.Links.length:Nat):Int)) <|
(if (((a0.Links.getD s8.2.2.toNat default).A) == a1.At) = true then
 gd ((0:Int)≤s8.2.2∧s8.2.2<((s8.1.length:Nat):Int)) <|
 some (s8.1.set s8.2.2.toNat (⟨(⟨0,0,0⟩:TreeVector),0⟩:TreeSlot))
else
 some s8.1)) fun x12 =>
 gd ((0:Int)≤s8.2.2∧s8.2.2<((a0.Links.length:Nat):Int)) <|
(if (((a0.Links.getD s8.2.2.toNat default).B) == a1.At) = true then
 gd ((0:Int)≤s8.2.2∧s8.2.2<((s8.2.1.length:Nat):Int)) <|
 some (.inl (x12,s8.2.1.set s8.2.2.toNat (⟨(⟨0,0,0⟩:TreeVector),0⟩:TreeSlot),IntKind.i64.wrap (s8.2.2+1)))
else
 some (.inl (x12,s8.2.1,IntKind.i64.wrap (s8.2.2+1))))
else
 some (.inr (s8.1.length,s8.2.1.length,s8.1,s8.2.1)))) (a0.AtA,a0.AtB,0)) fun x11 =>
 some ({ a0 with Bridges:=x7,AtA:=x11.2.2.1,AtB:=x11.2.2.2 })))
theorem spec_l83Bridge_c {a0:TreeWorld} {a1:TreeEvent} {r:TreeWorld} (h:spec_l83Bridge_m a0 a1 = some r):EffC Tryz.prog 101 [.agg [.osl 9000 0 a0.Bridges.length,.d (slD TreeLink.enc a0.Links),.d (slD encInt a0.Down),.osl 9001 0 a0.AtA.length,.osl 9002 0 a0.AtB.length,.d (slD TreeWord.enc a0.Radio)],.agg [.d (.int .i64 a1.Kind),.d (.int .i64 a1.At),.d (.int .i64 a1.End)]] [(9000,.arr 42 6 a0.Bridges.length (rows TreeBridge.enc a0.Bridges)),(9001,.arr 113 4 a0.AtA.length (rows TreeSlot.enc a0.AtA)),(9002,.arr 113 4 a0.AtB.length (rows TreeSlot.enc a0.AtB))] (.agg [.d (slD TreeBridge.enc r.Bridges),.d (slD TreeLink.enc r.Links),.d (slD encInt r.Down),.d (slD TreeSlot.enc r.AtA),.d (slD TreeSlot.enc r.AtB),.d (slD TreeWord.enc r.Radio)]) []:=by
  refine effC_x tOk (fn:=Tryz.f101) (c:=codeOf Tryz.f101) rfl rfl ?_;unfold spec_l83Bridge_m at h;(conv=>whnf);refine seq_in tOk ?_;(conv=>whnf);obtain ⟨x1,hx1,h⟩:=bd_some h;refine cC 0 (spec_l81In_c hx1) ?_;clear hx1;(conv=>whnf);refine andI h (fun _ h=>?_) (fun _ h=>?_)
  · (conv=>whnf);obtain rfl:=Option.some.inj h;exact lfE [.f [9000,9001,9002]]
  · (conv=>whnf);refine gdI h (fun h=>?_);(conv=>whnf);refine seq_in tOk ?_;(conv=>whnf);refine andI h (fun _ h=>?_) (fun _ h=>?_)
    · (conv=>whnf);refine seq_in tOk ?_;(conv=>whnf);refine andI h (fun _ h=>?_) (fun _ h=>?_)
      · (conv=>whnf);obtain ⟨x3,hx3,h⟩:=bd_some h;obtain ⟨g4,h⟩:=gd_some h;refine draw_u tOk [.u 8 0 (.agg [.d (.int .i64 x3.Vector.Root),.d (.int .i64 x3.Vector.Cost),.d (.int .i64 x3.Vector.Age),.d (.int .i64 x3.Link)]) []] 11 [] [0,1,0,4,0,16,0,64,192,496,1023] [2047] ?_;(conv=>whnf);refine And.intro (callD_any (spec_l82Self_c hx3) (by kernel_rfl)) ?_;(conv=>whnf);refine And.intro g4 ?_;clear g4;(conv=>whnf);refine And.intro (by kernel_rfl) ?_;(conv=>whnf);obtain ⟨x5,hx5,hlx5,h⟩:=bd_set h;refine setS (enc:=TreeBridge.enc) hx5 ?_;(conv=>whnf);obtain rfl:=Option.some.inj h;exact lfE [.f [9000,9001,9002]]
      · (conv=>whnf);obtain rfl:=Option.some.inj h;exact lfE [.f [9000,9001,9002]]
    · (conv=>whnf);refine gdI h (fun h=>?_);(conv=>whnf);obtain ⟨x7,hx7,hlx7,h⟩:=bd_set h;refine setS (enc:=TreeBridge.enc) hx7 ?_;(conv=>whnf);refine seq_in tOk ?_;(conv=>whnf);obtain ⟨x11,hx11,h⟩:=bd_some h;refine loop_m tOk hx11 (fun s8=>⟨0,84,[(2,.ref 2 0 0),(3,.ref 3 0 0),(4,.ref 4 0 0),(6,.d (.int .i64 s8.2.2))],[],[(4,.box 29 [.d (.nil),.d (.nil),.d (.nil),.d (.nil),.d (.nil),.d (.nil)]),(3,.box 36 [.d (.int .i64 a1.Kind),.d (.int .i64 a1.At),.d (.int .i64 a1.End)]),(2,.box 29 [.osl 9000 0 a0.Bridges.length,.d (slD TreeLink.enc a0.Links),.d (slD encInt a0.Down),.osl 9001 0 s8.1.length,.osl 9002 0 s8.2.1.length,.d (slD TreeWord.enc a0.Radio)]),(9000,.arr 42 6 a0.Bridges.length (rows TreeBridge.enc x7)),(9001,.arr 113 4 s8.1.length (rows TreeSlot.enc s8.1)),(9002,.arr 113 4 s8.2.1.length (rows TreeSlot.enc s8.2.1))],[⟨[],[]⟩]⟩) ?_ ?_
      · exact leX []
      · clear hx11;intro s8 y9 g10 hy9;(conv=>whnf);refine seq_in tOk ?_;(conv=>whnf);refine andI g10 (fun _ g10=>?_) (fun _ g10=>?_)
        · (conv=>whnf);refine seq_in tOk ?_;(conv=>whnf);obtain ⟨x12,hx12,g10⟩:=bd_some g10;refine seq_join tOk (fun s13=>⟨0,84,[(2,.ref 2 0 0),(3,.ref 3 0 0),(4,.ref 4 0 0),(6,.d (.int .i64 s8.2.2))],[],[(4,.box 29 [.d (.nil),.d (.nil),.d (.nil),.d (.nil),.d (.nil),.d (.nil)]),(3,.box 36 [.d (.int .i64 a1.Kind),.d (.int .i64 a1.At),.d (.int .i64 a1.End)]),(2,.box 29 [.osl 9000 0 a0.Bridges.length,.d (slD TreeLink.enc a0.Links),.d (slD encInt a0.Down),.osl 9001 0 s13.length,.osl 9002 0 s8.2.1.length,.d (slD TreeWord.enc a0.Radio)]),(9000,.arr 42 6 a0.Bridges.length (rows TreeBridge.enc x7)),(9001,.arr 113 4 s13.length (rows TreeSlot.enc s13)),(9002,.arr 113 4 s8.2.1.length (rows TreeSlot.enc s8.2.1))],[⟨[],[]⟩]⟩) (fun s13=>x12 = s13) ?_ ?_
          · (conv=>whnf);obtain ⟨g15,hx12⟩:=gd_some hx12;refine draw_u tOk [] 9 [] [0,1,0,7,15,31,0,64,255] [] ?_;(conv=>whnf);refine And.intro g15 ?_;clear g15;(conv=>whnf);refine And.intro (by kernel_rfl) ?_;(conv=>whnf);refine andI hx12 (fun _ hx12=>?_) (fun _ hx12=>?_)
            · (conv=>whnf);refine gdI hx12 (fun hx12=>?_);(conv=>whnf);refine ⟨rows TreeSlot.enc (s8.1.set s8.2.2.toNat (⟨(⟨0,0,0⟩:TreeVector),0⟩:TreeSlot)),store_rows' lenA rfl,?_⟩;(conv=>whnf);obtain rfl:=Option.some.inj hx12;exact ⟨_,rfl,leX []⟩
            · (conv=>whnf);obtain rfl:=Option.some.inj hx12;exact ⟨_,rfl,leX []⟩
          · rintro _ rfl;(conv=>whnf);obtain ⟨g17,g10⟩:=gd_some g10;refine draw_u tOk [] 9 [] [0,1,0,7,15,31,0,64,255] [] ?_;(conv=>whnf);refine And.intro g17 ?_;clear g17;(conv=>whnf);refine And.intro (by kernel_rfl) ?_;(conv=>whnf);refine andI g10 (fun _ g10=>?_) (fun _ g10=>?_)
            · (conv=>whnf);refine gdI g10 (fun g10=>?_);(conv=>whnf);refine ⟨rows TreeSlot.enc (s8.2.1.set s8.2.2.toNat (⟨(⟨0,0,0⟩:TreeVector),0⟩:TreeSlot)),store_rows' lenA rfl,?_⟩;(conv=>whnf);obtain rfl:=Option.some.inj g10;exact ⟨_,rfl,leX []⟩
            · (conv=>whnf);obtain rfl:=Option.some.inj g10;exact ⟨_,rfl,leX []⟩
        · (conv=>whnf);obtain rfl:=Option.some.inj g10;obtain rfl:=hy9 _ rfl;obtain rfl:=Option.some.inj h;exact lfE [.f [9000,9001,9002]]
end Go.Proofs.YtfgmolljcgnafabGreat
