/-
  What some of the program's functions compute: their models, and that the functions compute these; no condition.
-/
import Derived.Test.YthgcnnkjojemdaaTyz
import Derived.Test.YthgcnnkjojemdaaTbz
import Derived.Test.YthgcnnkjojemdaaKz3
set_option linter.all false
namespace Go.Proofs.Ythgcnnkjojemdaa
open Go Go.Ab
set_option maxRecDepth 100000
set_option maxHeartbeats 4000000
noncomputable def impl_TreeWorldOk_m (a0:TreeWorld):Option (Bool) :=
 bd (impl_TreeLinksOk_m ((a0.Bridges.length:Nat):Int) a0.Links) fun x1 =>
 bd (gcall ((!x1) = false) (impl_TreeWorld_bridgesOk_m a0)) fun x2 =>
(if (((((!x1) || (!x2)) || (((a0.AtA.length:Nat):Int) != ((a0.Links.length:Nat):Int))) || (((a0.AtB.length:Nat):Int) != ((a0.Links.length:Nat):Int))) || (decide (((a0.Radio.length:Nat):Int) > 12))) = true then
 some false
else
 bd (lp (σ:=Int) (β:=(Unit ⊕ Unit)) (fun s3 =>
(if (decide (s3<((a0.Down.length:Nat):Int))) = true then
 gd ((0:Int)≤s3∧s3<((a0.Down.length:Nat):Int)) <|
 bd (impl_TreeWorld_isLink_m a0 (a0.Down.getD s3.toNat default)) fun x8 =>
 gd ((decide (s3 > 0)) = true → ((!x8) = false → ((0:Int)≤IntKind.i64.wrap (s3 - 1)∧IntKind.i64.wrap (s3 - 1)<((a0.Down.length:Nat):Int)))) <|
(if ((!x8) || ((decide (s3 > 0)) && (decide ((a0.Down.getD ((IntKind.i64.wrap (s3 - 1)).toNat) default) ≥ (a0.Down.getD s3.toNat default))))) = true then
 some (.inr (.inl ()))
else
 some (.inl (IntKind.i64.wrap (s3+1))))
else
 some (.inr (.inr ())))) 0) fun x6 =>
(match x6 with
| .inl d10 =>
 some false
| .inr d11 =>
 bd (lp (σ:=Int) (β:=(Unit ⊕ Unit)) (fun s12 =>
(if (decide (s12<((a0.Links.length:Nat):Int))) = true then
 bd (impl_TreeWorld_slotOk_m a0 s12 0) fun x16 =>
 bd (gcall ((!x16) = false) (impl_TreeWorld_slotOk_m a0 s12 1)) fun x17 =>
(if ((!x16) || (!x17)) = true then
 some (.inr (.inl ()))
else
 some (.inl (IntKind.i64.wrap (s12+1))))
else
 some (.inr (.inr ())))) 0) fun x15 =>
(match x15 with
| .inl d18 =>
 some false
| .inr d19 =>
 bd (slices_ContainsFunc_TreeWord_TreeWord_impl_TreeWorldOk_1_m a0.Radio a0) fun x20 =>
 some (!x20))))
theorem impl_TreeWorldOk_c {a0:TreeWorld} {r:Bool} (h:impl_TreeWorldOk_m a0 = some r):PureC Try.prog 22 [.agg [.d (slD TreeBridge.enc a0.Bridges),.d (slD TreeLink.enc a0.Links),.d (slD encInt a0.Down),.d (slD TreeSlot.enc a0.AtA),.d (slD TreeSlot.enc a0.AtB),.d (slD TreeWord.enc a0.Radio)]] (.d (.bool r)) []:=by
  refine pureC_x tOk (fn:=Try.f22) (c:=codeOf Try.f22) rfl rfl ?_;unfold impl_TreeWorldOk_m at h;(conv=>whnf);refine seq_in tOk ?_;(conv=>whnf);obtain ⟨x1,hx1,h⟩:=bd_some h;refine cC 0 (impl_TreeLinksOk_c hx1) ?_;clear hx1;(conv=>whnf);obtain ⟨x2,hx2,h⟩:=bd_some h;refine callG_m rfl rfl rfl rfl rfl rfl (by intro c0; exact impl_TreeWorld_bridgesOk_c (gcall_some hx2 c0)) ?_;(conv=>whnf);refine andI h (fun _ h=>?_) (fun _ h=>?_)
  · (conv=>whnf);obtain rfl:=Option.some.inj h;exact lfP []
  · (conv=>whnf);refine seq_in tOk ?_;(conv=>whnf);obtain ⟨x6,hx6,h⟩:=bd_some h;refine loop_m tOk hx6 (fun s3=>⟨0,87,[(1,.ref 1 0 0),(42,.d (slD encInt a0.Down)),(43,.d (.int .i64 ((a0.Down.length:Nat):Int))),(44,.d (.int .i64 s3))],[],[(1,.box 29 [.d (slD TreeBridge.enc a0.Bridges),.d (slD TreeLink.enc a0.Links),.d (slD encInt a0.Down),.d (slD TreeSlot.enc a0.AtA),.d (slD TreeSlot.enc a0.AtB),.d (slD TreeWord.enc a0.Radio)])],[]⟩) ?_ ?_
    · exact leX []
    · clear hx6;intro s3 y4 g5 hy4;(conv=>whnf);refine seq_in tOk ?_;(conv=>whnf);refine andI g5 (fun _ g5=>?_) (fun _ g5=>?_)
      · (conv=>whnf);refine seq_in tOk ?_;(conv=>whnf);refine gdI g5 (fun g5=>?_);(conv=>whnf);obtain ⟨x8,hx8,g5⟩:=bd_some g5;refine cC 0 (impl_TreeWorld_isLink_c hx8) ?_;clear hx8;(conv=>whnf);refine gdI g5 (fun g5=>?_);(conv=>whnf);refine andI g5 (fun _ g5=>?_) (fun _ g5=>?_)
        · (conv=>whnf);obtain rfl:=Option.some.inj g5;obtain rfl:=hy4 _ rfl;obtain rfl:=Option.some.inj h;exact lfP []
        · (conv=>whnf);obtain rfl:=Option.some.inj g5;exact ⟨_,rfl,leX []⟩
      · (conv=>whnf);obtain rfl:=Option.some.inj g5;obtain rfl:=hy4 _ rfl;refine seq_in tOk ?_;(conv=>whnf);obtain ⟨x15,hx15,h⟩:=bd_some h;refine loop_m tOk hx15 (fun s12=>⟨0,87,[(1,.ref 1 0 0),(69,.d (.int .i64 ((a0.Links.length:Nat):Int))),(70,.d (.int .i64 s12))],[],[(1,.box 29 [.d (slD TreeBridge.enc a0.Bridges),.d (slD TreeLink.enc a0.Links),.d (slD encInt a0.Down),.d (slD TreeSlot.enc a0.AtA),.d (slD TreeSlot.enc a0.AtB),.d (slD TreeWord.enc a0.Radio)])],[]⟩) ?_ ?_
        · exact leX []
        · clear hx15;intro s12 y13 g14 hy13;(conv=>whnf);refine seq_in tOk ?_;(conv=>whnf);refine andI g14 (fun _ g14=>?_) (fun _ g14=>?_)
          · (conv=>whnf);refine seq_in tOk ?_;(conv=>whnf);obtain ⟨x16,hx16,g14⟩:=bd_some g14;refine cC 0 (impl_TreeWorld_slotOk_c hx16) ?_;clear hx16;(conv=>whnf);obtain ⟨x17,hx17,g14⟩:=bd_some g14;refine callG_m rfl rfl rfl rfl rfl rfl (by intro c0; exact impl_TreeWorld_slotOk_c (gcall_some hx17 c0)) ?_;(conv=>whnf);refine andI g14 (fun _ g14=>?_) (fun _ g14=>?_)
            · (conv=>whnf);obtain rfl:=Option.some.inj g14;obtain rfl:=hy13 _ rfl;obtain rfl:=Option.some.inj h;exact lfP []
            · (conv=>whnf);obtain rfl:=Option.some.inj g14;exact ⟨_,rfl,leX []⟩
          · (conv=>whnf);obtain rfl:=Option.some.inj g14;obtain rfl:=hy13 _ rfl;obtain ⟨x20,hx20,h⟩:=bd_some h;refine cC 0 (slices_ContainsFunc_TreeWord_TreeWord_impl_TreeWorldOk_1_c hx20) ?_;clear hx20;(conv=>whnf);obtain rfl:=Option.some.inj h;exact lfP []
noncomputable def impl_TreeWorld_open_m (a0:TreeWorld) (a1:Int):Option (Bool) :=
 gd ((0:Int)≤a1∧a1<((a0.Links.length:Nat):Int)) <|
 bd (impl_TreeWorld_isDown_m a0 a1) fun x2 =>
 gd ((!x2) = true → ((0:Int)≤(a0.Links.getD a1.toNat default).A∧(a0.Links.getD a1.toNat default).A<((a0.Bridges.length:Nat):Int))) <|
 gd (((!x2) && (a0.Bridges.getD (((a0.Links.getD a1.toNat default).A).toNat) default).Up) = true → ((0:Int)≤(a0.Links.getD a1.toNat default).B∧(a0.Links.getD a1.toNat default).B<((a0.Bridges.length:Nat):Int))) <|
 some (((!x2) && (a0.Bridges.getD (((a0.Links.getD a1.toNat default).A).toNat) default).Up) && (a0.Bridges.getD (((a0.Links.getD a1.toNat default).B).toNat) default).Up)
theorem impl_TreeWorld_open_c {a0:TreeWorld} {a1:Int} {r:Bool} (h:impl_TreeWorld_open_m a0 a1 = some r):PureC Try.prog 64 [.rp [slD TreeBridge.enc a0.Bridges,slD TreeLink.enc a0.Links,slD encInt a0.Down,slD TreeSlot.enc a0.AtA,slD TreeSlot.enc a0.AtB,slD TreeWord.enc a0.Radio],.d (.int .i64 a1)] (.d (.bool r)) []:=by
  refine pureC_x tOk (fn:=Try.f64) (c:=codeOf Try.f64) rfl rfl ?_;unfold impl_TreeWorld_open_m at h;(conv=>whnf);refine gdI h (fun h=>?_);(conv=>whnf);obtain ⟨x2,hx2,h⟩:=bd_some h;obtain ⟨g3,h⟩:=gd_some h;obtain ⟨g4,h⟩:=gd_some h;refine draw_u tOk [.u 2 0 (.d (.bool x2)) []] 27 [] [0,0,3,7,15,31,63,127,255,31,543,2047,4095,8191,16383,32767,65535,131071,262143,524287,65535,1114111,4194303,8388607,16777215,33554431,67108863] [] ?_;(conv=>whnf);refine And.intro (callD_any (impl_TreeWorld_isDown_c hx2) (by kernel_rfl)) ?_;(conv=>whnf);refine And.intro g3 ?_;clear g3;(conv=>whnf);refine And.intro g4 ?_;clear g4;(conv=>whnf);refine And.intro (by kernel_rfl) ?_;(conv=>whnf);obtain rfl:=Option.some.inj h;exact lfP []
noncomputable def impl_TreeWorld_root_m (a0:TreeWorld) (a1:Int):Option (Int) :=
 gd ((0:Int)≤((a0.Bridges.length:Nat):Int)∧((a0.Bridges.length:Nat):Int)≤((a0.Bridges.length:Nat):Int)∧((a0.Bridges.length:Nat):Int) * 1≤140737488355328∧((a0.Bridges.length:Nat):Int)≤140737488355328) <|
 gd ((0:Int)≤a1∧a1<(((List.replicate (((a0.Bridges.length:Nat):Int):Int).toNat (default:Bool)).length:Nat):Int)) <|
 bd (some ((List.replicate (((a0.Bridges.length:Nat):Int):Int).toNat (default:Bool)).set a1.toNat true)) fun x2 =>
 bd (lp (σ:=List Bool × Int) (β:=(Nat × (List Bool))) (fun s3 =>
(if (decide (s3.2<((a0.Bridges.length:Nat):Int))) = true then
 bd (lp (σ:=List Bool × Int) (β:=(Nat × (List Bool))) (fun s7 =>
(if (decide (s7.2<((a0.Links.length:Nat):Int))) = true then
 gd ((0:Int)≤s7.2∧s7.2<((a0.Links.length:Nat):Int)) <|
 bd (impl_TreeWorld_open_m a0 s7.2) fun x12 =>
 gd (x12 = true → ((0:Int)≤(a0.Links.getD s7.2.toNat default).A∧(a0.Links.getD s7.2.toNat default).A<((s7.1.length:Nat):Int))) <|
 gd ((s7.1.getD (((a0.Links.getD s7.2.toNat default).A).toNat) default) = false → (x12 = true → ((0:Int)≤(a0.Links.getD s7.2.toNat default).B∧(a0.Links.getD s7.2.toNat default).B<((s7.1.length:Nat):Int)))) <|
(if (x12 && ((s7.1.getD (((a0.Links.getD s7.2.toNat default).A).toNat) default) || (s7.1.getD (((a0.Links.getD s7.2.toNat default).B).toNat) default))) = true then
 gd ((0:Int)≤(a0.Links.getD s7.2.toNat default).A∧(a0.Links.getD s7.2.toNat default).A<((s7.1.length:Nat):Int)) <|
 bd (some (s7.1.set (((a0.Links.getD s7.2.toNat default).A).toNat) true)) fun x16 =>
 gd ((0:Int)≤(a0.Links.getD s7.2.toNat default).B∧(a0.Links.getD s7.2.toNat default).B<((s7.1.length:Nat):Int)) <|
 bd (some (x16.set (((a0.Links.getD s7.2.toNat default).B).toNat) true)) fun x18 =>
 some (.inl (x18,IntKind.i64.wrap (s7.2+1)))
else
 some (.inl (s7.1,IntKind.i64.wrap (s7.2+1))))
else
 some (.inr (s7.1.length,s7.1)))) (s3.1,0)) fun x10 =>
 some (.inl (x10.2,IntKind.i64.wrap (s3.2+1)))
else
 some (.inr (s3.1.length,s3.1)))) (x2,0)) fun x6 =>
 bd (lp (σ:=Int × Int) (β:=(Int)) (fun s21 =>
(if (decide (s21.1<((x6.1:Nat):Int))) = true then
 gd ((0:Int)≤s21.1∧s21.1<((x6.1:Nat):Int)) <|
 gd ((x6.2.getD s21.1.toNat default) = true → ((0:Int)≤s21.1∧s21.1<((a0.Bridges.length:Nat):Int))) <|
 gd ((x6.2.getD s21.1.toNat default) = true → ((0:Int)≤s21.2∧s21.2<((a0.Bridges.length:Nat):Int))) <|
(if ((x6.2.getD s21.1.toNat default) && (decide (((a0.Bridges.getD s21.1.toNat default).Id)<((a0.Bridges.getD s21.2.toNat default).Id)))) = true then
 some (.inl (IntKind.i64.wrap (s21.1+1),s21.1))
else
 some (.inl (IntKind.i64.wrap (s21.1+1),s21.2)))
else
 some (.inr s21.2))) (0,a1)) fun x24 =>
 some x24
theorem impl_TreeWorld_root_c {a0:TreeWorld} {a1:Int} {r:Int} (h:impl_TreeWorld_root_m a0 a1 = some r):PureC Try.prog 119 [.rp [slD TreeBridge.enc a0.Bridges,slD TreeLink.enc a0.Links,slD encInt a0.Down,slD TreeSlot.enc a0.AtA,slD TreeSlot.enc a0.AtB,slD TreeWord.enc a0.Radio],.d (.int .i64 a1)] (.d (.int .i64 r)) []:=by
  refine pureC_x tOk (fn:=Try.f119) (c:=codeOf Try.f119) rfl rfl ?_;unfold impl_TreeWorld_root_m at h;(conv=>whnf);obtain ⟨g29,h⟩:=gd_some h;refine And.intro g29 ?_;clear g29;refine ⟨(List.replicate (((a0.Bridges.length:Nat):Int):Int).toNat (default:Bool)).length,rows encBool (List.replicate (((a0.Bridges.length:Nat):Int):Int).toNat (default:Bool)),by simp,make_rows rfl,?_⟩;(conv=>whnf);refine gdI h (fun h=>?_);(conv=>whnf);obtain ⟨x2,hx2,hlx2,h⟩:=bd_set h;have hlx2n:=hlx2
  try simp only [List.length_replicate,Int.toNat_natCast] at hlx2n
  refine setS (enc:=encBool) hx2 ?_;(conv=>whnf);refine seq_in tOk ?_;(conv=>whnf);obtain ⟨x6,hx6,h⟩:=bd_some h;refine loop_m tOk hx6 (fun s3=>⟨0,95,[(0,.rp [slD TreeBridge.enc a0.Bridges,slD TreeLink.enc a0.Links,slD encInt a0.Down,slD TreeSlot.enc a0.AtA,slD TreeSlot.enc a0.AtB,slD TreeWord.enc a0.Radio]),(1,.d (.int .i64 a1)),(5,.osl 16 0 s3.1.length),(24,.d (.int .i64 ((a0.Bridges.length:Nat):Int))),(25,.d (.int .i64 s3.2))],[],[(16,.arr 4 1 s3.1.length (rows encBool s3.1))],[]⟩) ?_ ?_
  · exact leX []
  · clear hx6;intro s3 y4 g5 hy4;(conv=>whnf);refine seq_in tOk ?_;(conv=>whnf);refine andI g5 (fun _ g5=>?_) (fun _ g5=>?_)
    · (conv=>whnf);refine seq_in tOk ?_;(conv=>whnf);obtain ⟨x10,hx10,g5⟩:=bd_some g5;refine loop_m tOk hx10 (fun s7=>⟨0,95,[(0,.rp [slD TreeBridge.enc a0.Bridges,slD TreeLink.enc a0.Links,slD encInt a0.Down,slD TreeSlot.enc a0.AtA,slD TreeSlot.enc a0.AtB,slD TreeWord.enc a0.Radio]),(1,.d (.int .i64 a1)),(5,.osl 16 0 s7.1.length),(24,.d (.int .i64 ((a0.Bridges.length:Nat):Int))),(25,.d (.int .i64 s3.2)),(30,.d (slD TreeLink.enc a0.Links)),(31,.d (.int .i64 ((a0.Links.length:Nat):Int))),(32,.d (.int .i64 s7.2))],[],[(16,.arr 4 1 s7.1.length (rows encBool s7.1))],[]⟩) ?_ ?_
      · exact leX []
      · clear hx10;intro s7 y8 g9 hy8;(conv=>whnf);refine seq_in tOk ?_;(conv=>whnf);refine andI g9 (fun _ g9=>?_) (fun _ g9=>?_)
        · (conv=>whnf);refine seq_in tOk ?_;(conv=>whnf);refine gdI g9 (fun g9=>?_);(conv=>whnf);obtain ⟨x12,hx12,g9⟩:=bd_some g9;refine cC 0 (impl_TreeWorld_open_c hx12) ?_;clear hx12;(conv=>whnf);refine gdI g9 (fun g9=>?_);(conv=>whnf);refine gdI g9 (fun g9=>?_);(conv=>whnf);refine andI g9 (fun _ g9=>?_) (fun _ g9=>?_)
          · (conv=>whnf);obtain ⟨g15,g9⟩:=gd_some g9;obtain ⟨x16,hx16,hlx16,g9⟩:=bd_set g9;obtain ⟨g17,g9⟩:=gd_some g9;obtain ⟨x18,hx18,hlx18,g9⟩:=bd_set g9;refine draw_t tOk [.l 6 [(16,.arr 4 1 s7.1.length (rows encBool s7.1))] (.ref 16 (((a0.Links.getD s7.2.toNat default).A).toNat) 0),.a 7 [(16,.arr 4 1 s7.1.length (rows encBool s7.1))] (.any) [(16,.arr 4 1 s7.1.length (rows encBool x16))],.l 8 [(16,.arr 4 1 s7.1.length (rows encBool x16))] (.ref 16 (((a0.Links.getD s7.2.toNat default).B).toNat) 0),.a 9 [(16,.arr 4 1 s7.1.length (rows encBool x16))] (.any) [(16,.arr 4 1 s7.1.length (rows encBool x18))]] 10 [] [0,0,2,0,0,16,7,71,255,511] [] [16] ?_;(conv=>whnf);refine And.intro (by (conv=>whnf); exact ⟨g15,rfl,rfl⟩) ?_;(conv=>whnf);refine And.intro (by (conv=>whnf); exact setS (enc:=encBool) hx16 ⟨rfl,rfl⟩) ?_;(conv=>whnf);refine And.intro (by (conv=>whnf); exact ⟨g17,rfl,rfl⟩) ?_;(conv=>whnf);refine And.intro (by (conv=>whnf); exact setS (enc:=encBool) hx18 ⟨rfl,rfl⟩) ?_;(conv=>whnf);refine And.intro (by kernel_rfl) ?_;(conv=>whnf);obtain rfl:=Option.some.inj g9;exact ⟨_,rfl,leX []⟩
          · (conv=>whnf);obtain rfl:=Option.some.inj g9;exact ⟨_,rfl,leX []⟩
        · (conv=>whnf);obtain rfl:=Option.some.inj g9;obtain rfl:=hy8 _ rfl;obtain rfl:=Option.some.inj g5;exact ⟨_,rfl,leX []⟩
    · (conv=>whnf);obtain rfl:=Option.some.inj g5;obtain rfl:=hy4 _ rfl;refine seq_in tOk ?_;(conv=>whnf);obtain ⟨x24,hx24,h⟩:=bd_some h;refine loop_m tOk hx24 (fun s21=>⟨0,95,[(0,.rp [slD TreeBridge.enc a0.Bridges,slD TreeLink.enc a0.Links,slD encInt a0.Down,slD TreeSlot.enc a0.AtA,slD TreeSlot.enc a0.AtB,slD TreeWord.enc a0.Radio]),(8,.d (.int .i64 s21.2)),(65,.osl 16 0 (s3.1.length,s3.1).1),(66,.d (.int .i64 (((s3.1.length,s3.1).1:Nat):Int))),(67,.d (.int .i64 s21.1))],[],[(16,.arr 4 1 (s3.1.length,s3.1).1 (rows encBool (s3.1.length,s3.1).2))],[]⟩) ?_ ?_
      · exact leX []
      · clear hx24;intro s21 y22 g23 hy22;(conv=>whnf);refine seq_in tOk ?_;(conv=>whnf);refine andI g23 (fun _ g23=>?_) (fun _ g23=>?_)
        · (conv=>whnf);refine seq_in tOk ?_;(conv=>whnf);refine gdI g23 (fun g23=>?_);(conv=>whnf);obtain ⟨g26,g23⟩:=gd_some g23;obtain ⟨g27,g23⟩:=gd_some g23;refine draw_u tOk [] 20 [] [0,1,3,7,15,31,3,127,255,511,3,1027,3075,7171,3,31747,64515,130051,262143,524287] [] ?_;(conv=>whnf);refine And.intro g26 ?_;clear g26;(conv=>whnf);refine And.intro g27 ?_;clear g27;(conv=>whnf);refine And.intro (by kernel_rfl) ?_;(conv=>whnf);refine andI g23 (fun _ g23=>?_) (fun _ g23=>?_)
          · (conv=>whnf);obtain rfl:=Option.some.inj g23;exact ⟨_,rfl,leX []⟩
          · (conv=>whnf);obtain rfl:=Option.some.inj g23;exact ⟨_,rfl,leX []⟩
        · (conv=>whnf);obtain rfl:=Option.some.inj g23;obtain rfl:=hy22 _ rfl;obtain rfl:=Option.some.inj h;exact lfP []
noncomputable def impl_TreeWorld_costs_m (a0:TreeWorld) (a1:Int):Option ((List Int)) :=
 gd ((0:Int)≤((a0.Bridges.length:Nat):Int)∧((a0.Bridges.length:Nat):Int)≤((a0.Bridges.length:Nat):Int)∧((a0.Bridges.length:Nat):Int) * 8≤140737488355328∧((a0.Bridges.length:Nat):Int)≤140737488355328) <|
 bd (lp (σ:=List Int × Int) (β:=(Nat × (List Int))) (fun s1 =>
(if (decide (s1.2<(((List.replicate (((a0.Bridges.length:Nat):Int):Int).toNat (default:Int)).length:Nat):Int))) = true then
 gd ((0:Int)≤s1.2∧s1.2<((s1.1.length:Nat):Int)) <|
 some (.inl (s1.1.set s1.2.toNat 1073741824,IntKind.i64.wrap (s1.2+1)))
else
 some (.inr (s1.1.length,s1.1)))) ((List.replicate (((a0.Bridges.length:Nat):Int):Int).toNat (default:Int)),0)) fun x4 =>
 gd ((0:Int)≤a1∧a1<((x4.1:Nat):Int)) <|
 bd (lp (σ:=List Int × Int) (β:=(Nat × (List Int))) (fun s8 =>
(if (decide (s8.2<((a0.Bridges.length:Nat):Int))) = true then
 bd (lp (σ:=List Int × Int) (β:=(Nat × (List Int))) (fun s12 =>
(if (decide (s12.2<((a0.Links.length:Nat):Int))) = true then
 gd ((0:Int)≤s12.2∧s12.2<((a0.Links.length:Nat):Int)) <|
 bd (impl_TreeWorld_open_m a0 s12.2) fun x17 =>
(if x17 = true then
 gd ((0:Int)≤(a0.Links.getD s12.2.toNat default).A∧(a0.Links.getD s12.2.toNat default).A<((s12.1.length:Nat):Int)) <|
 gd ((0:Int)≤(a0.Links.getD s12.2.toNat default).B∧(a0.Links.getD s12.2.toNat default).B<((s12.1.length:Nat):Int)) <|
 gd ((0:Int)≤(a0.Links.getD s12.2.toNat default).A∧(a0.Links.getD s12.2.toNat default).A<((s12.1.length:Nat):Int)) <|
 bd (some (s12.1.set (((a0.Links.getD s12.2.toNat default).A).toNat) (if (IntKind.i64.wrap ((s12.1.getD (((a0.Links.getD s12.2.toNat default).B).toNat) default)+((a0.Links.getD s12.2.toNat default).Cost)))<(s12.1.getD (((a0.Links.getD s12.2.toNat default).A).toNat) default) then IntKind.i64.wrap ((s12.1.getD (((a0.Links.getD s12.2.toNat default).B).toNat) default)+((a0.Links.getD s12.2.toNat default).Cost)) else (s12.1.getD (((a0.Links.getD s12.2.toNat default).A).toNat) default)))) fun x21 =>
 gd ((0:Int)≤(a0.Links.getD s12.2.toNat default).B∧(a0.Links.getD s12.2.toNat default).B<((s12.1.length:Nat):Int)) <|
 gd ((0:Int)≤(a0.Links.getD s12.2.toNat default).A∧(a0.Links.getD s12.2.toNat default).A<((s12.1.length:Nat):Int)) <|
 gd ((0:Int)≤(a0.Links.getD s12.2.toNat default).B∧(a0.Links.getD s12.2.toNat default).B<((s12.1.length:Nat):Int)) <|
 bd (some (x21.set (((a0.Links.getD s12.2.toNat default).B).toNat) (if (IntKind.i64.wrap ((x21.getD (((a0.Links.getD s12.2.toNat default).A).toNat) default)+((a0.Links.getD s12.2.toNat default).Cost)))<(x21.getD (((a0.Links.getD s12.2.toNat default).B).toNat) default) then IntKind.i64.wrap ((x21.getD (((a0.Links.getD s12.2.toNat default).A).toNat) default)+((a0.Links.getD s12.2.toNat default).Cost)) else (x21.getD (((a0.Links.getD s12.2.toNat default).B).toNat) default)))) fun x25 =>
 some (.inl (x25,IntKind.i64.wrap (s12.2+1)))
else
 some (.inl (s12.1,IntKind.i64.wrap (s12.2+1))))
else
 some (.inr (s12.1.length,s12.1)))) (s8.1,0)) fun x15 =>
 some (.inl (x15.2,IntKind.i64.wrap (s8.2+1)))
else
 some (.inr (s8.1.length,s8.1)))) (x4.2.set a1.toNat 0,0)) fun x11 =>
 some x11.2
theorem impl_TreeWorld_costs_c {a0:TreeWorld} {a1:Int} {r:(List Int)} (h:impl_TreeWorld_costs_m a0 a1 = some r):PureC Try.prog 120 [.rp [slD TreeBridge.enc a0.Bridges,slD TreeLink.enc a0.Links,slD encInt a0.Down,slD TreeSlot.enc a0.AtA,slD TreeSlot.enc a0.AtB,slD TreeWord.enc a0.Radio],.d (.int .i64 a1)] (.osl 5001 0 r.length) [⟨5001,3,1,r.length,rows encInt r⟩]:=by
  refine pureC_x tOk (fn:=Try.f120) (c:=codeOf Try.f120) rfl rfl ?_;unfold impl_TreeWorld_costs_m at h;(conv=>whnf);obtain ⟨g28,h⟩:=gd_some h;refine And.intro g28 ?_;clear g28;refine ⟨(List.replicate (((a0.Bridges.length:Nat):Int):Int).toNat (default:Int)).length,rows encInt (List.replicate (((a0.Bridges.length:Nat):Int):Int).toNat (default:Int)),by simp,make_rows rfl,?_⟩;(conv=>whnf);refine seq_in tOk ?_;(conv=>whnf);obtain ⟨x4,hx4,h⟩:=bd_some h;refine loop_m tOk hx4 (fun s1=>⟨0,86,[(0,.rp [slD TreeBridge.enc a0.Bridges,slD TreeLink.enc a0.Links,slD encInt a0.Down,slD TreeSlot.enc a0.AtA,slD TreeSlot.enc a0.AtB,slD TreeWord.enc a0.Radio]),(1,.d (.int .i64 a1)),(5,.osl 14 0 s1.1.length),(16,.d (.int .i64 (((List.replicate (((a0.Bridges.length:Nat):Int):Int).toNat (default:Int)).length:Nat):Int))),(17,.d (.int .i64 s1.2))],[],[(14,.arr 3 1 s1.1.length (rows encInt s1.1))],[]⟩) ?_ ?_
  · exact leX []
  · clear hx4;intro s1 y2 g3 hy2;(conv=>whnf);refine seq_in tOk ?_;(conv=>whnf);refine andI g3 (fun _ g3=>?_) (fun _ g3=>?_)
    · (conv=>whnf);refine seq_in tOk ?_;(conv=>whnf);refine gdI g3 (fun g3=>?_);(conv=>whnf);refine ⟨rows encInt (s1.1.set s1.2.toNat 1073741824),store_rows' lenA rfl,?_⟩;(conv=>whnf);obtain rfl:=Option.some.inj g3;exact ⟨_,rfl,leX []⟩
    · (conv=>whnf);obtain rfl:=Option.some.inj g3;obtain rfl:=hy2 _ rfl;refine gdI h (fun h=>?_);(conv=>whnf);refine ⟨rows encInt ((s1.1.length,s1.1).2.set a1.toNat 0),store_rows' lenA rfl,?_⟩;(conv=>whnf);refine seq_in tOk ?_;(conv=>whnf);obtain ⟨x11,hx11,h⟩:=bd_some h;refine loop_m tOk hx11 (fun s8=>⟨0,86,[(0,.rp [slD TreeBridge.enc a0.Bridges,slD TreeLink.enc a0.Links,slD encInt a0.Down,slD TreeSlot.enc a0.AtA,slD TreeSlot.enc a0.AtB,slD TreeWord.enc a0.Radio]),(5,.osl 14 0 s8.1.length),(31,.d (.int .i64 ((a0.Bridges.length:Nat):Int))),(32,.d (.int .i64 s8.2))],[],[(14,.arr 3 1 s8.1.length (rows encInt s8.1))],[]⟩) ?_ ?_
      · exact leX []
      · clear hx11;intro s8 y9 g10 hy9;(conv=>whnf);refine seq_in tOk ?_;(conv=>whnf);refine andI g10 (fun _ g10=>?_) (fun _ g10=>?_)
        · (conv=>whnf);refine seq_in tOk ?_;(conv=>whnf);obtain ⟨x15,hx15,g10⟩:=bd_some g10;refine loop_m tOk hx15 (fun s12=>⟨0,86,[(0,.rp [slD TreeBridge.enc a0.Bridges,slD TreeLink.enc a0.Links,slD encInt a0.Down,slD TreeSlot.enc a0.AtA,slD TreeSlot.enc a0.AtB,slD TreeWord.enc a0.Radio]),(5,.osl 14 0 s12.1.length),(31,.d (.int .i64 ((a0.Bridges.length:Nat):Int))),(32,.d (.int .i64 s8.2)),(37,.d (slD TreeLink.enc a0.Links)),(38,.d (.int .i64 ((a0.Links.length:Nat):Int))),(39,.d (.int .i64 s12.2))],[],[(14,.arr 3 1 s12.1.length (rows encInt s12.1))],[]⟩) ?_ ?_
          · exact leX []
          · clear hx15;intro s12 y13 g14 hy13;(conv=>whnf);refine seq_in tOk ?_;(conv=>whnf);refine andI g14 (fun _ g14=>?_) (fun _ g14=>?_)
            · (conv=>whnf);refine seq_in tOk ?_;(conv=>whnf);refine gdI g14 (fun g14=>?_);(conv=>whnf);obtain ⟨x17,hx17,g14⟩:=bd_some g14;refine cC 0 (impl_TreeWorld_open_c hx17) ?_;clear hx17;(conv=>whnf);refine andI g14 (fun _ g14=>?_) (fun _ g14=>?_)
              · (conv=>whnf);obtain ⟨g18,g14⟩:=gd_some g14;obtain ⟨g19,g14⟩:=gd_some g14;obtain ⟨g20,g14⟩:=gd_some g14;refine draw_u tOk [] 18 [] [0,0,2,0,0,16,56,120,0,0,512,1792,3840,0,8192,32512,65528,131071] [262143] ?_;(conv=>whnf);refine And.intro g18 ?_;clear g18;(conv=>whnf);refine And.intro g19 ?_;clear g19;(conv=>whnf);refine And.intro g20 ?_;clear g20;(conv=>whnf);refine And.intro (by kernel_rfl) ?_;(conv=>whnf);obtain ⟨x21,hx21,hlx21,g14⟩:=bd_set g14;refine setS (enc:=encInt) hx21 ?_;(conv=>whnf);obtain ⟨g22,g14⟩:=gd_some g14;obtain ⟨g23,g14⟩:=gd_some g14;obtain ⟨g24,g14⟩:=gd_some g14;refine draw_u tOk [] 18 [] [0,0,2,0,0,16,56,120,0,0,512,1792,3840,0,8192,32512,65528,131071] [262143] ?_;(conv=>whnf);refine And.intro g22 ?_;clear g22;(conv=>whnf);refine And.intro g23 ?_;clear g23;(conv=>whnf);refine And.intro g24 ?_;clear g24;(conv=>whnf);refine And.intro (by kernel_rfl) ?_;(conv=>whnf);obtain ⟨x25,hx25,hlx25,g14⟩:=bd_set g14;refine setS (enc:=encInt) hx25 ?_;(conv=>whnf);obtain rfl:=Option.some.inj g14;exact ⟨_,rfl,leX []⟩
              · (conv=>whnf);obtain rfl:=Option.some.inj g14;exact ⟨_,rfl,leX []⟩
            · (conv=>whnf);obtain rfl:=Option.some.inj g14;obtain rfl:=hy13 _ rfl;obtain rfl:=Option.some.inj g10;exact ⟨_,rfl,leX []⟩
        · (conv=>whnf);obtain rfl:=Option.some.inj g10;obtain rfl:=hy9 _ rfl;obtain rfl:=Option.some.inj h;exact lfP [.s [(14,5001),(5001,14)]]
noncomputable def impl_TreeWorld_uplink_m (a0:TreeWorld) (a1:Int) (a2:(List Int)):Option (Int × Int) :=
 bd (lp (σ:=Int × Int × Int) (β:=(Int × Int)) (fun s1 =>
(if (decide (s1.1<((a0.Links.length:Nat):Int))) = true then
 gd ((0:Int)≤s1.1∧s1.1<((a0.Links.length:Nat):Int)) <|
 bd (lp (σ:=Int × Int × Int) (β:=(Int × Int)) (fun s6 =>
(if (decide (s6.1<2)) = true then
 bd (impl_TreeWorld_bridgeAt_m a0 s1.1 (IntKind.i64.wrap (1 - s6.1))) fun x10 =>
 bd (impl_TreeWorld_open_m a0 s1.1) fun x11 =>
 bd (gcall ((!x11) = false) (impl_TreeWorld_bridgeAt_m a0 s1.1 s6.1)) fun x12 =>
 gd (((!x11) || (x12 != a1)) = false → ((0:Int)≤x10∧x10<((a2.length:Nat):Int))) <|
 gd (((!x11) || (x12 != a1)) = false → ((0:Int)≤a1∧a1<((a2.length:Nat):Int))) <|
(if (((!x11) || (x12 != a1)) || ((IntKind.i64.wrap ((a2.getD x10.toNat default)+((a0.Links.getD s1.1.toNat default).Cost))) != (a2.getD a1.toNat default))) = true then
 some (.inl (IntKind.i64.wrap (s6.1+1),s6.2.1,s6.2.2))
else
 gd ((decide (s6.2.1<0)) = false → ((0:Int)≤x10∧x10<((a0.Bridges.length:Nat):Int))) <|
 gd ((decide (s6.2.1<0)) = false → ((0:Int)≤s6.2.2∧s6.2.2<((a0.Bridges.length:Nat):Int))) <|
(if ((decide (s6.2.1<0)) || (decide (((a0.Bridges.getD x10.toNat default).Id)<((a0.Bridges.getD s6.2.2.toNat default).Id)))) = true then
 some (.inl (IntKind.i64.wrap (s6.1+1),s1.1,x10))
else
 some (.inl (IntKind.i64.wrap (s6.1+1),s6.2.1,s6.2.2))))
else
 some (.inr (s6.2.1,s6.2.2)))) (0,s1.2.1,s1.2.2)) fun x9 =>
 some (.inl (IntKind.i64.wrap (s1.1+1),x9.1,x9.2))
else
 some (.inr (s1.2.1,s1.2.2)))) (0,-1,-1)) fun x4 =>
 some (x4.1,x4.2)
theorem impl_TreeWorld_uplink_c {a0:TreeWorld} {a1:Int} {a2:(List Int)} {r:Int × Int} (h:impl_TreeWorld_uplink_m a0 a1 a2 = some r):PureC Try.prog 121 [.rp [slD TreeBridge.enc a0.Bridges,slD TreeLink.enc a0.Links,slD encInt a0.Down,slD TreeSlot.enc a0.AtA,slD TreeSlot.enc a0.AtB,slD TreeWord.enc a0.Radio],.d (.int .i64 a1),.d (slD encInt a2)] (.tup [.d (.int .i64 r.1),.d (.int .i64 r.2)]) []:=by
  refine pureC_x tOk (fn:=Try.f121) (c:=codeOf Try.f121) rfl rfl ?_;unfold impl_TreeWorld_uplink_m at h;(conv=>whnf);refine seq_in tOk ?_;(conv=>whnf);obtain ⟨x4,hx4,h⟩:=bd_some h;refine loop_m tOk hx4 (fun s1=>⟨0,85,[(0,.rp [slD TreeBridge.enc a0.Bridges,slD TreeLink.enc a0.Links,slD encInt a0.Down,slD TreeSlot.enc a0.AtA,slD TreeSlot.enc a0.AtB,slD TreeWord.enc a0.Radio]),(1,.d (.int .i64 a1)),(2,.d (slD encInt a2)),(8,.d (.int .i64 s1.2.1)),(9,.d (.int .i64 s1.2.2)),(17,.d (slD TreeLink.enc a0.Links)),(18,.d (.int .i64 ((a0.Links.length:Nat):Int))),(19,.d (.int .i64 s1.1))],[],[],[]⟩) ?_ ?_
  · exact leX []
  · clear hx4;intro s1 y2 g3 hy2;(conv=>whnf);refine seq_in tOk ?_;(conv=>whnf);refine andI g3 (fun _ g3=>?_) (fun _ g3=>?_)
    · (conv=>whnf);refine seq_in tOk ?_;(conv=>whnf);refine gdI g3 (fun g3=>?_);(conv=>whnf);obtain ⟨x9,hx9,g3⟩:=bd_some g3;refine loop_m tOk hx9 (fun s6=>⟨0,85,[(0,.rp [slD TreeBridge.enc a0.Bridges,slD TreeLink.enc a0.Links,slD encInt a0.Down,slD TreeSlot.enc a0.AtA,slD TreeSlot.enc a0.AtB,slD TreeWord.enc a0.Radio]),(1,.d (.int .i64 a1)),(2,.d (slD encInt a2)),(8,.d (.int .i64 s6.2.1)),(9,.d (.int .i64 s6.2.2)),(10,.d (.int .i64 s1.1)),(11,.ref 11 0 0),(17,.d (slD TreeLink.enc a0.Links)),(18,.d (.int .i64 ((a0.Links.length:Nat):Int))),(19,.d (.int .i64 s1.1)),(24,.d (.int .i64 s6.1))],[],[(11,.box 46 [.d (.int .i64 ((a0.Links.getD s1.1.toNat default).A)),.d (.int .i64 ((a0.Links.getD s1.1.toNat default).B)),.d (.int .i64 ((a0.Links.getD s1.1.toNat default).Cost))])],[]⟩) ?_ ?_
      · exact leX []
      · clear hx9;intro s6 y7 g8 hy7;(conv=>whnf);refine seq_in tOk ?_;(conv=>whnf);refine andI g8 (fun _ g8=>?_) (fun _ g8=>?_)
        · (conv=>whnf);refine seq_in tOk ?_;(conv=>whnf);obtain ⟨x10,hx10,g8⟩:=bd_some g8;refine cC 0 (impl_TreeWorld_bridgeAt_c hx10) ?_;clear hx10;(conv=>whnf);refine seq_in tOk ?_;(conv=>whnf);obtain ⟨x11,hx11,g8⟩:=bd_some g8;obtain ⟨x12,hx12,g8⟩:=bd_some g8;obtain ⟨g13,g8⟩:=gd_some g8;obtain ⟨g14,g8⟩:=gd_some g8;refine draw_u tOk [.u 2 0 (.d (.bool x11)) [],.u 8 0 (.d (.int .i64 x12)) []] 26 [] [0,0,3,7,15,31,31,31,255,31,1023,2047,4095,8191,8191,32767,65535,8191,139263,524287,8191,8191,3153919,7348223,16777215,33554431] [] ?_;(conv=>whnf);refine And.intro (callD_any (impl_TreeWorld_open_c hx11) (by kernel_rfl)) ?_;(conv=>whnf);refine And.intro (callDG_if rfl rfl rfl rfl (by intro c0; exact impl_TreeWorld_bridgeAt_c (gcall_some hx12 c0))) ?_;(conv=>whnf);refine And.intro g13 ?_;clear g13;(conv=>whnf);refine And.intro g14 ?_;clear g14;(conv=>whnf);refine And.intro (by kernel_rfl) ?_;(conv=>whnf);refine andI g8 (fun _ g8=>?_) (fun _ g8=>?_)
          · (conv=>whnf);obtain rfl:=Option.some.inj g8;exact ⟨_,rfl,leX []⟩
          · (conv=>whnf);obtain ⟨g15,g8⟩:=gd_some g8;obtain ⟨g16,g8⟩:=gd_some g8;refine draw_u tOk [] 21 [] [0,1,3,7,15,31,63,7,255,511,1023,7,2055,6151,14343,7,63495,129031,260103,524287,1048575] [] ?_;(conv=>whnf);refine And.intro g15 ?_;clear g15;(conv=>whnf);refine And.intro g16 ?_;clear g16;(conv=>whnf);refine And.intro (by kernel_rfl) ?_;(conv=>whnf);refine andI g8 (fun _ g8=>?_) (fun _ g8=>?_)
            · (conv=>whnf);obtain rfl:=Option.some.inj g8;exact ⟨_,rfl,leX []⟩
            · (conv=>whnf);obtain rfl:=Option.some.inj g8;exact ⟨_,rfl,leX []⟩
        · (conv=>whnf);obtain rfl:=Option.some.inj g8;obtain rfl:=hy7 _ rfl;obtain rfl:=Option.some.inj g3;exact ⟨_,rfl,leX []⟩
    · (conv=>whnf);obtain rfl:=Option.some.inj g3;obtain rfl:=hy2 _ rfl;obtain rfl:=Option.some.inj h;exact lfP []
noncomputable def impl_TreeWorld_best_m (a0:TreeWorld) (a1:Int):Option (TreeMind) :=
 bd (impl_TreeWorld_root_m a0 a1) fun x1 =>
 bd (impl_TreeWorld_costs_m a0 x1) fun x2 =>
 gd ((0:Int)≤x1∧x1<((a0.Bridges.length:Nat):Int)) <|
 gd ((0:Int)≤a1∧a1<((x2.length:Nat):Int)) <|
 bd (lp (σ:=Int × Int × Int) (β:=(Int × Int)) (fun s5 =>
(if (s5.2.2 != x1) = true then
 bd (impl_TreeWorld_uplink_m a0 s5.2.2 x2) fun x9 =>
(if (s5.2.2 == a1) = true then
 some (.inl (IntKind.i64.wrap (s5.1+1),x9.1,x9.2))
else
 some (.inl (IntKind.i64.wrap (s5.1+1),s5.2.1,x9.2)))
else
 some (.inr (s5.1,s5.2.1)))) (0,-1,a1)) fun x8 =>
 some (⟨(⟨(a0.Bridges.getD x1.toNat default).Id,(x2.getD a1.toNat default),x8.1⟩:TreeVector),x8.2⟩:TreeMind)
theorem impl_TreeWorld_best_c {a0:TreeWorld} {a1:Int} {r:TreeMind} (h:impl_TreeWorld_best_m a0 a1 = some r):PureC Try.prog 75 [.rp [slD TreeBridge.enc a0.Bridges,slD TreeLink.enc a0.Links,slD encInt a0.Down,slD TreeSlot.enc a0.AtA,slD TreeSlot.enc a0.AtB,slD TreeWord.enc a0.Radio],.d (.int .i64 a1)] (.agg [.d (.int .i64 r.Vector.Root),.d (.int .i64 r.Vector.Cost),.d (.int .i64 r.Vector.Age),.d (.int .i64 r.Link)]) []:=by
  refine pureC_x tOk (fn:=Try.f75) (c:=codeOf Try.f75) rfl rfl ?_;unfold impl_TreeWorld_best_m at h;(conv=>whnf);obtain ⟨x1,hx1,h⟩:=bd_some h;refine cC 0 (impl_TreeWorld_root_c hx1) ?_;clear hx1;(conv=>whnf);obtain ⟨x2,hx2,h⟩:=bd_some h;refine cC 1000 (impl_TreeWorld_costs_c hx2) ?_;clear hx2;(conv=>whnf);obtain ⟨g3,h⟩:=gd_some h;obtain ⟨g4,h⟩:=gd_some h;refine draw_u tOk [] 15 [] [0,1,3,7,0,31,63,127,0,0,768,1792,4095,8191,0] [32767] ?_;(conv=>whnf);refine And.intro g3 ?_;clear g3;(conv=>whnf);refine And.intro g4 ?_;clear g4;(conv=>whnf);refine And.intro (by kernel_rfl) ?_;(conv=>whnf);refine seq_in tOk ?_;(conv=>whnf);obtain ⟨x8,hx8,h⟩:=bd_some h;refine loop_m tOk hx8 (fun s5=>⟨0,55,[(0,.rp [slD TreeBridge.enc a0.Bridges,slD TreeLink.enc a0.Links,slD encInt a0.Down,slD TreeSlot.enc a0.AtA,slD TreeSlot.enc a0.AtB,slD TreeWord.enc a0.Radio]),(1,.d (.int .i64 a1)),(4,.ref 4 0 0),(5,.d (.int .i64 x1)),(6,.osl 6001 0 x2.length),(7,.ref 7 0 0),(8,.d (.int .i64 s5.2.2))],[],[(7,.box 41 [.d (.int .i64 ((a0.Bridges.getD x1.toNat default).Id)),.d (.int .i64 (x2.getD a1.toNat default)),.d (.int .i64 s5.1),.d (.int .i64 s5.2.1)]),(6001,.arr 3 1 x2.length (rows encInt x2)),(4,.box 41 [.d (.int .i64 0),.d (.int .i64 0),.d (.int .i64 0),.d (.int .i64 0)])],[]⟩) ?_ ?_
  · exact leX []
  · clear hx8;intro s5 y6 g7 hy6;(conv=>whnf);refine seq_in tOk ?_;(conv=>whnf);refine andI g7 (fun _ g7=>?_) (fun _ g7=>?_)
    · (conv=>whnf);obtain ⟨x9,hx9,g7⟩:=bd_some g7;refine cC 0 (impl_TreeWorld_uplink_c hx9) ?_;clear hx9;(conv=>whnf);refine seq_in tOk ?_;(conv=>whnf);refine andI g7 (fun _ g7=>?_) (fun _ g7=>?_)
      · (conv=>whnf);obtain rfl:=Option.some.inj g7;exact ⟨_,rfl,leX []⟩
      · (conv=>whnf);obtain rfl:=Option.some.inj g7;exact ⟨_,rfl,leX []⟩
    · (conv=>whnf);obtain rfl:=Option.some.inj g7;obtain rfl:=hy6 _ rfl;obtain rfl:=Option.some.inj h;exact lfP []
noncomputable def impl_TreeWorld_bests_m (a0:TreeWorld):Option ((List TreeMind)) :=
 bd (lp (σ:=List TreeMind × Int) (β:=(Nat × (List TreeMind))) (fun s1 =>
(if (decide (s1.2<((a0.Bridges.length:Nat):Int))) = true then
 gd ((0:Int)≤s1.2∧s1.2<((a0.Bridges.length:Nat):Int)) <|
(if (a0.Bridges.getD s1.2.toNat default).Up = true then
 bd (impl_TreeWorld_best_m a0 s1.2) fun x6 =>
 gd (((s1.1.length)+(([x6]:List TreeMind).length)) * (32+1)≤70368744177664) <|
 some (.inl ((s1.1 ++ ([x6]:List TreeMind)),IntKind.i64.wrap (s1.2+1)))
else
 gd (((s1.1.length)+(([(⟨(⟨0,0,0⟩:TreeVector),0⟩:TreeMind)]:List TreeMind).length)) * (32+1)≤70368744177664) <|
 some (.inl ((s1.1 ++ ([(⟨(⟨0,0,0⟩:TreeVector),0⟩:TreeMind)]:List TreeMind)),IntKind.i64.wrap (s1.2+1))))
else
 some (.inr (s1.1.length,s1.1)))) (([]:List TreeMind),0)) fun x4 =>
 some x4.2
theorem impl_TreeWorld_bests_c {a0:TreeWorld} {r:(List TreeMind)} (h:impl_TreeWorld_bests_m a0 = some r):PureC Try.prog 34 [.rp [slD TreeBridge.enc a0.Bridges,slD TreeLink.enc a0.Links,slD encInt a0.Down,slD TreeSlot.enc a0.AtA,slD TreeSlot.enc a0.AtB,slD TreeWord.enc a0.Radio]] (.osl 5001 0 r.length) [⟨5001,41,4,r.length,rows TreeMind.enc r⟩]:=by
  refine pureC_x tOk (fn:=Try.f34) (c:=codeOf Try.f34) rfl rfl ?_;unfold impl_TreeWorld_bests_m at h;(conv=>whnf);refine seq_in tOk ?_;(conv=>whnf);obtain ⟨x4,hx4,h⟩:=bd_some h;refine loop_m tOk hx4 (fun s1=>⟨0,30,[(0,.rp [slD TreeBridge.enc a0.Bridges,slD TreeLink.enc a0.Links,slD encInt a0.Down,slD TreeSlot.enc a0.AtA,slD TreeSlot.enc a0.AtB,slD TreeWord.enc a0.Radio]),(3,.osl 7001 0 s1.1.length),(11,.d (slD TreeBridge.enc a0.Bridges)),(12,.d (.int .i64 ((a0.Bridges.length:Nat):Int))),(13,.d (.int .i64 s1.2))],[],[(7001,.arr 41 4 s1.1.length (rows TreeMind.enc s1.1))],[]⟩) ?_ ?_
  · exact leX [.p 7001 41 4 (rows TreeMind.enc ([]:List TreeMind))]
  · clear hx4;intro s1 y2 g3 hy2;(conv=>whnf);refine seq_in tOk ?_;(conv=>whnf);refine andI g3 (fun _ g3=>?_) (fun _ g3=>?_)
    · (conv=>whnf);refine seq_in tOk ?_;(conv=>whnf);refine gdI g3 (fun g3=>?_);(conv=>whnf);refine seq_in tOk ?_;(conv=>whnf);refine andI g3 (fun _ g3=>?_) (fun _ g3=>?_)
      · (conv=>whnf);obtain ⟨x6,hx6,g3⟩:=bd_some g3;refine cC 0 (impl_TreeWorld_best_c hx6) ?_;clear hx6;(conv=>whnf);refine bldS (enc:=TreeMind.enc) ([x6]:List TreeMind) ?_;(conv=>whnf);refine gdI g3 (fun g3=>?_);refine appS (enc:=TreeMind.enc) (xs:=s1.1) (ys:=([x6]:List TreeMind)) ?_;(conv=>whnf);obtain rfl:=Option.some.inj g3;exact ⟨_,rfl,leX []⟩
      · (conv=>whnf);refine bldS (enc:=TreeMind.enc) ([(⟨(⟨0,0,0⟩:TreeVector),0⟩:TreeMind)]:List TreeMind) ?_;(conv=>whnf);refine gdI g3 (fun g3=>?_);refine appS (enc:=TreeMind.enc) (xs:=s1.1) (ys:=([(⟨(⟨0,0,0⟩:TreeVector),0⟩:TreeMind)]:List TreeMind)) ?_;(conv=>whnf);obtain rfl:=Option.some.inj g3;exact ⟨_,rfl,leX []⟩
    · (conv=>whnf);obtain rfl:=Option.some.inj g3;obtain rfl:=hy2 _ rfl;obtain rfl:=Option.some.inj h;exact lfP [.s [(5001,7001),(7001,5001)]]
noncomputable def impl_TreeBest_m (a0:TreeWorld):Option ((List TreeMind)) :=
 bd (impl_TreeWorldOk_m a0) fun x1 =>
(if (!x1) = true then
 some []
else
 bd (impl_TreeWorld_bests_m a0) fun x2 =>
 some x2)
theorem impl_TreeBest_c {a0:TreeWorld} {r:(List TreeMind)} (h:impl_TreeBest_m a0 = some r):PureC Try.prog 9 [.agg [.d (slD TreeBridge.enc a0.Bridges),.d (slD TreeLink.enc a0.Links),.d (slD encInt a0.Down),.d (slD TreeSlot.enc a0.AtA),.d (slD TreeSlot.enc a0.AtB),.d (slD TreeWord.enc a0.Radio)]] (.osl 5001 0 r.length) [⟨5001,41,4,r.length,rows TreeMind.enc r⟩]:=by
  refine pureC_x tOk (fn:=Try.f9) (c:=codeOf Try.f9) rfl rfl ?_;unfold impl_TreeBest_m at h;(conv=>whnf);refine seq_in tOk ?_;(conv=>whnf);obtain ⟨x1,hx1,h⟩:=bd_some h;refine cC 0 (impl_TreeWorldOk_c hx1) ?_;clear hx1;(conv=>whnf);refine andI h (fun _ h=>?_) (fun _ h=>?_)
  · (conv=>whnf);obtain rfl:=Option.some.inj h;exact lfP [.k [1],.p 5001 41 4 (rows TreeMind.enc ([]:List TreeMind))]
  · (conv=>whnf);obtain ⟨x2,hx2,h⟩:=bd_some h;refine cC 1000 (impl_TreeWorld_bests_c hx2) ?_;clear hx2;(conv=>whnf);obtain rfl:=Option.some.inj h;exact lfP [.s [(5001,6001),(6001,5001)]]
noncomputable def spec_l84Relax_m (a0:(List Int)) (a1:Int) (a2:Int) (a3:Int):Option ((List Int)) :=
 gd ((0:Int)≤a1∧a1<((a0.length:Nat):Int)) <|
 gd ((decide ((a0.getD a1.toNat default) ≥ 0)) = true → ((0:Int)≤a2∧a2<((a0.length:Nat):Int))) <|
 gd ((decide ((a0.getD a2.toNat default)<0)) = false → ((decide ((a0.getD a1.toNat default) ≥ 0)) = true → ((0:Int)≤a2∧a2<((a0.length:Nat):Int)))) <|
 gd ((decide ((a0.getD a2.toNat default)<0)) = false → ((decide ((a0.getD a1.toNat default) ≥ 0)) = true → ((0:Int)≤a1∧a1<((a0.length:Nat):Int)))) <|
(if ((decide ((a0.getD a1.toNat default) ≥ 0)) && ((decide ((a0.getD a2.toNat default)<0)) || (decide ((a0.getD a2.toNat default) > (IntKind.i64.wrap ((a0.getD a1.toNat default)+a3)))))) = true then
 gd ((0:Int)≤a1∧a1<((a0.length:Nat):Int)) <|
 gd ((0:Int)≤a2∧a2<((a0.length:Nat):Int)) <|
 some (a0.set a2.toNat (IntKind.i64.wrap ((a0.getD a1.toNat default)+a3)))
else
 some a0)
theorem spec_l84Relax_c {a0:(List Int)} {a1:Int} {a2:Int} {a3:Int} {r:(List Int)} (h:spec_l84Relax_m a0 a1 a2 a3 = some r):EffC Try.prog 122 [.osl 9000 0 a0.length,.d (.int .i64 a1),.d (.int .i64 a2),.d (.int .i64 a3)] [(9000,.arr 3 1 a0.length (rows encInt a0))] (.osl 5001 0 r.length) [(5001,.arr 3 1 r.length (rows encInt r))]:=by
  refine effC_x tOk (fn:=Try.f122) (c:=codeOf Try.f122) rfl rfl ?_;unfold spec_l84Relax_m at h;(conv=>whnf);refine seq_in tOk ?_;(conv=>whnf);obtain ⟨g1,h⟩:=gd_some h;obtain ⟨g2,h⟩:=gd_some h;obtain ⟨g3,h⟩:=gd_some h;obtain ⟨g4,h⟩:=gd_some h;refine draw_u tOk [] 25 [] [0,0,3,7,15,31,63,63,255,511,1023,2047,4095,4095,16383,32767,4095,4095,200703,462847,4095,2035711,4194303,8388607,16777215] [] ?_;(conv=>whnf);refine And.intro g1 ?_;clear g1;(conv=>whnf);refine And.intro g2 ?_;clear g2;(conv=>whnf);refine And.intro g3 ?_;clear g3;(conv=>whnf);refine And.intro g4 ?_;clear g4;(conv=>whnf);refine And.intro (by kernel_rfl) ?_;(conv=>whnf);refine andI h (fun _ h=>?_) (fun _ h=>?_)
  · (conv=>whnf);refine gdI h (fun h=>?_);(conv=>whnf);refine gdI h (fun h=>?_);(conv=>whnf);refine ⟨rows encInt (a0.set a2.toNat (IntKind.i64.wrap ((a0.getD a1.toNat default)+a3))),store_rows' lenA rfl,?_⟩;(conv=>whnf);obtain rfl:=Option.some.inj h;exact lfE [.s [(5001,9000),(9000,5001)]]
  · (conv=>whnf);obtain rfl:=Option.some.inj h;exact lfE [.s [(5001,9000),(9000,5001)]]
noncomputable def spec_l84Costs_m (a0:TreeWorld) (a1:Int):Option ((List Int)) :=
 gd ((0:Int)≤((a0.Bridges.length:Nat):Int)∧((a0.Bridges.length:Nat):Int)≤((a0.Bridges.length:Nat):Int)∧((a0.Bridges.length:Nat):Int) * 8≤140737488355328∧((a0.Bridges.length:Nat):Int)≤140737488355328) <|
 bd (lp (σ:=List Int × Int) (β:=(Nat × (List Int))) (fun s1 =>
(if (decide (s1.2<((s1.1.length:Nat):Int))) = true then
 gd ((0:Int)≤s1.2∧s1.2<((s1.1.length:Nat):Int)) <|
 some (.inl (s1.1.set s1.2.toNat (-1),IntKind.i64.wrap (s1.2+1)))
else
 some (.inr (s1.1.length,s1.1)))) ((List.replicate (((a0.Bridges.length:Nat):Int):Int).toNat (default:Int)),0)) fun x4 =>
 gd ((0:Int)≤a1∧a1<((x4.1:Nat):Int)) <|
 bd (lp (σ:=List Int × Int) (β:=(Nat × (List Int))) (fun s8 =>
(if (decide (s8.2<((s8.1.length:Nat):Int))) = true then
 bd (lp (σ:=List Int × Int) (β:=(Nat × (List Int))) (fun s12 =>
(if (decide (s12.2<((a0.Links.length:Nat):Int))) = true then
 bd (spec_l83Open_m a0 s12.2) fun x16 =>
(if x16 = true then
 gd ((0:Int)≤s12.2∧s12.2<((a0.Links.length:Nat):Int)) <|
 gd ((0:Int)≤s12.2∧s12.2<((a0.Links.length:Nat):Int)) <|
 gd ((0:Int)≤s12.2∧s12.2<((a0.Links.length:Nat):Int)) <|
 bd (spec_l84Relax_m s12.1 ((a0.Links.getD s12.2.toNat default).A) ((a0.Links.getD s12.2.toNat default).B) ((a0.Links.getD s12.2.toNat default).Cost)) fun x20 =>
 gd ((0:Int)≤s12.2∧s12.2<((a0.Links.length:Nat):Int)) <|
 gd ((0:Int)≤s12.2∧s12.2<((a0.Links.length:Nat):Int)) <|
 gd ((0:Int)≤s12.2∧s12.2<((a0.Links.length:Nat):Int)) <|
 bd (spec_l84Relax_m x20 ((a0.Links.getD s12.2.toNat default).B) ((a0.Links.getD s12.2.toNat default).A) ((a0.Links.getD s12.2.toNat default).Cost)) fun x24 =>
 some (.inl (x24,IntKind.i64.wrap (s12.2+1)))
else
 some (.inl (s12.1,IntKind.i64.wrap (s12.2+1))))
else
 some (.inr (s12.1.length,s12.1)))) (s8.1,0)) fun x15 =>
 some (.inl (x15.2,IntKind.i64.wrap (s8.2+1)))
else
 some (.inr (s8.1.length,s8.1)))) (x4.2.set a1.toNat 0,0)) fun x11 =>
 some x11.2
theorem spec_l84Costs_c {a0:TreeWorld} {a1:Int} {r:(List Int)} (h:spec_l84Costs_m a0 a1 = some r):PureC Try.prog 77 [.agg [.d (slD TreeBridge.enc a0.Bridges),.d (slD TreeLink.enc a0.Links),.d (slD encInt a0.Down),.d (slD TreeSlot.enc a0.AtA),.d (slD TreeSlot.enc a0.AtB),.d (slD TreeWord.enc a0.Radio)],.d (.int .i64 a1)] (.osl 5001 0 r.length) [⟨5001,3,1,r.length,rows encInt r⟩]:=by
  refine pureC_x tOk (fn:=Try.f77) (c:=codeOf Try.f77) rfl rfl ?_;unfold spec_l84Costs_m at h;(conv=>whnf);obtain ⟨g27,h⟩:=gd_some h;refine And.intro g27 ?_;clear g27;refine ⟨(List.replicate (((a0.Bridges.length:Nat):Int):Int).toNat (default:Int)).length,rows encInt (List.replicate (((a0.Bridges.length:Nat):Int):Int).toNat (default:Int)),by simp,make_rows rfl,?_⟩;(conv=>whnf);refine seq_in tOk ?_;(conv=>whnf);obtain ⟨x4,hx4,h⟩:=bd_some h;refine loop_m tOk hx4 (fun s1=>⟨0,82,[(1,.d (.int .i64 a1)),(2,.ref 2 0 0),(5,.osl 12 0 s1.1.length),(6,.d (.int .i64 s1.2))],[],[(12,.arr 3 1 s1.1.length (rows encInt s1.1)),(2,.box 29 [.d (slD TreeBridge.enc a0.Bridges),.d (slD TreeLink.enc a0.Links),.d (slD encInt a0.Down),.d (slD TreeSlot.enc a0.AtA),.d (slD TreeSlot.enc a0.AtB),.d (slD TreeWord.enc a0.Radio)])],[]⟩) ?_ ?_
  · exact leX []
  · clear hx4;intro s1 y2 g3 hy2;(conv=>whnf);refine seq_in tOk ?_;(conv=>whnf);refine andI g3 (fun _ g3=>?_) (fun _ g3=>?_)
    · (conv=>whnf);refine seq_in tOk ?_;(conv=>whnf);refine gdI g3 (fun g3=>?_);(conv=>whnf);refine ⟨rows encInt (s1.1.set s1.2.toNat (-1)),store_rows' lenA rfl,?_⟩;(conv=>whnf);obtain rfl:=Option.some.inj g3;exact ⟨_,rfl,leX []⟩
    · (conv=>whnf);obtain rfl:=Option.some.inj g3;obtain rfl:=hy2 _ rfl;refine gdI h (fun h=>?_);(conv=>whnf);refine ⟨rows encInt ((s1.1.length,s1.1).2.set a1.toNat 0),store_rows' lenA rfl,?_⟩;(conv=>whnf);refine seq_in tOk ?_;(conv=>whnf);obtain ⟨x11,hx11,h⟩:=bd_some h;refine loop_m tOk hx11 (fun s8=>⟨0,82,[(2,.ref 2 0 0),(5,.osl 12 0 s8.1.length),(7,.d (.int .i64 s8.2))],[],[(12,.arr 3 1 s8.1.length (rows encInt s8.1)),(2,.box 29 [.d (slD TreeBridge.enc a0.Bridges),.d (slD TreeLink.enc a0.Links),.d (slD encInt a0.Down),.d (slD TreeSlot.enc a0.AtA),.d (slD TreeSlot.enc a0.AtB),.d (slD TreeWord.enc a0.Radio)])],[]⟩) ?_ ?_
      · exact leX []
      · clear hx11;intro s8 y9 g10 hy9;(conv=>whnf);refine seq_in tOk ?_;(conv=>whnf);refine andI g10 (fun _ g10=>?_) (fun _ g10=>?_)
        · (conv=>whnf);refine seq_in tOk ?_;(conv=>whnf);obtain ⟨x15,hx15,g10⟩:=bd_some g10;refine loop_m tOk hx15 (fun s12=>⟨0,82,[(2,.ref 2 0 0),(5,.osl 12 0 s12.1.length),(7,.d (.int .i64 s8.2)),(8,.d (.int .i64 s12.2))],[],[(12,.arr 3 1 s12.1.length (rows encInt s12.1)),(2,.box 29 [.d (slD TreeBridge.enc a0.Bridges),.d (slD TreeLink.enc a0.Links),.d (slD encInt a0.Down),.d (slD TreeSlot.enc a0.AtA),.d (slD TreeSlot.enc a0.AtB),.d (slD TreeWord.enc a0.Radio)])],[]⟩) ?_ ?_
          · exact leX []
          · clear hx15;intro s12 y13 g14 hy13;(conv=>whnf);refine seq_in tOk ?_;(conv=>whnf);refine andI g14 (fun _ g14=>?_) (fun _ g14=>?_)
            · (conv=>whnf);refine seq_in tOk ?_;(conv=>whnf);obtain ⟨x16,hx16,g14⟩:=bd_some g14;refine cC 0 (spec_l83Open_c hx16) ?_;clear hx16;(conv=>whnf);refine andI g14 (fun _ g14=>?_) (fun _ g14=>?_)
              · (conv=>whnf);obtain ⟨g17,g14⟩:=gd_some g14;obtain ⟨g18,g14⟩:=gd_some g14;obtain ⟨g19,g14⟩:=gd_some g14;obtain ⟨x20,hx20,g14⟩:=bd_some g14;refine draw_t tOk [.e 19 [(12,.arr 3 1 s12.1.length (rows encInt s12.1))] (.osl 6001 0 x20.length) [(6001,.arr 3 1 x20.length (rows encInt x20))] []] 20 [] [0,0,2,0,14,30,62,0,128,0,896,1920,3968,0,8192,0,57344,122880,253952,524287] [1048575] [12] ?_;(conv=>whnf);refine And.intro g17 ?_;clear g17;(conv=>whnf);refine And.intro g18 ?_;clear g18;(conv=>whnf);refine And.intro g19 ?_;clear g19;(conv=>whnf);refine And.intro (eD [(9000,12)] 1000 (spec_l84Relax_c hx20)) ?_;(conv=>whnf);refine And.intro (by kernel_rfl) ?_;(conv=>whnf);obtain ⟨g21,g14⟩:=gd_some g14;obtain ⟨g22,g14⟩:=gd_some g14;obtain ⟨g23,g14⟩:=gd_some g14;obtain ⟨x24,hx24,g14⟩:=bd_some g14;refine draw_t tOk [.e 19 [(6001,.arr 3 1 x20.length (rows encInt x20))] (.osl 7001 0 x24.length) [(7001,.arr 3 1 x24.length (rows encInt x24))] []] 20 [] [0,0,2,0,14,30,62,0,128,0,896,1920,3968,0,8192,0,57344,122880,253952,524287] [1048575] [6001] ?_;(conv=>whnf);refine And.intro g21 ?_;clear g21;(conv=>whnf);refine And.intro g22 ?_;clear g22;(conv=>whnf);refine And.intro g23 ?_;clear g23;(conv=>whnf);refine And.intro (eD [(9000,6001)] 2000 (spec_l84Relax_c hx24)) ?_;(conv=>whnf);refine And.intro (by kernel_rfl) ?_;(conv=>whnf);obtain rfl:=Option.some.inj g14;exact ⟨_,rfl,leX [.s [(12,7001),(7001,12)]]⟩
              · (conv=>whnf);obtain rfl:=Option.some.inj g14;exact ⟨_,rfl,leX []⟩
            · (conv=>whnf);obtain rfl:=Option.some.inj g14;obtain rfl:=hy13 _ rfl;obtain rfl:=Option.some.inj g10;exact ⟨_,rfl,leX []⟩
        · (conv=>whnf);obtain rfl:=Option.some.inj g10;obtain rfl:=hy9 _ rfl;obtain rfl:=Option.some.inj h;exact lfP [.s [(12,5001),(5001,12)]]
noncomputable def spec_l84Root_m (a0:TreeWorld) (a1:Int):Option (Int) :=
 bd (spec_l84Costs_m a0 a1) fun x1 =>
 bd (lp (σ:=Int × Int) (β:=(Int)) (fun s2 =>
(if (decide (s2.2<((x1.length:Nat):Int))) = true then
 gd ((0:Int)≤s2.2∧s2.2<((x1.length:Nat):Int)) <|
 gd ((decide ((x1.getD s2.2.toNat default) ≥ 0)) = true → ((0:Int)≤s2.2∧s2.2<((a0.Bridges.length:Nat):Int))) <|
 gd ((decide ((x1.getD s2.2.toNat default) ≥ 0)) = true → ((0:Int)≤s2.1∧s2.1<((a0.Bridges.length:Nat):Int))) <|
(if ((decide ((x1.getD s2.2.toNat default) ≥ 0)) && (decide (((a0.Bridges.getD s2.2.toNat default).Id)<((a0.Bridges.getD s2.1.toNat default).Id)))) = true then
 some (.inl (s2.2,IntKind.i64.wrap (s2.2+1)))
else
 some (.inl (s2.1,IntKind.i64.wrap (s2.2+1))))
else
 some (.inr s2.1))) (a1,0)) fun x5 =>
 some x5
theorem spec_l84Root_c {a0:TreeWorld} {a1:Int} {r:Int} (h:spec_l84Root_m a0 a1 = some r):PureC Try.prog 76 [.agg [.d (slD TreeBridge.enc a0.Bridges),.d (slD TreeLink.enc a0.Links),.d (slD encInt a0.Down),.d (slD TreeSlot.enc a0.AtA),.d (slD TreeSlot.enc a0.AtB),.d (slD TreeWord.enc a0.Radio)],.d (.int .i64 a1)] (.d (.int .i64 r)) []:=by
  refine pureC_x tOk (fn:=Try.f76) (c:=codeOf Try.f76) rfl rfl ?_;unfold spec_l84Root_m at h;(conv=>whnf);obtain ⟨x1,hx1,h⟩:=bd_some h;refine cC 1000 (spec_l84Costs_c hx1) ?_;clear hx1;(conv=>whnf);refine seq_in tOk ?_;(conv=>whnf);obtain ⟨x5,hx5,h⟩:=bd_some h;refine loop_m tOk hx5 (fun s2=>⟨0,40,[(2,.ref 2 0 0),(5,.osl 6001 0 x1.length),(6,.d (.int .i64 s2.1)),(7,.d (.int .i64 s2.2))],[],[(6001,.arr 3 1 x1.length (rows encInt x1)),(2,.box 29 [.d (slD TreeBridge.enc a0.Bridges),.d (slD TreeLink.enc a0.Links),.d (slD encInt a0.Down),.d (slD TreeSlot.enc a0.AtA),.d (slD TreeSlot.enc a0.AtB),.d (slD TreeWord.enc a0.Radio)])],[]⟩) ?_ ?_
  · exact leX []
  · clear hx5;intro s2 y3 g4 hy3;(conv=>whnf);refine seq_in tOk ?_;(conv=>whnf);refine andI g4 (fun _ g4=>?_) (fun _ g4=>?_)
    · (conv=>whnf);refine seq_in tOk ?_;(conv=>whnf);obtain ⟨g6,g4⟩:=gd_some g4;obtain ⟨g7,g4⟩:=gd_some g4;obtain ⟨g8,g4⟩:=gd_some g4;refine draw_u tOk [] 20 [] [0,0,3,7,15,31,63,127,63,511,1023,2047,63,4159,63,28735,61503,127039,262143,524287] [] ?_;(conv=>whnf);refine And.intro g6 ?_;clear g6;(conv=>whnf);refine And.intro g7 ?_;clear g7;(conv=>whnf);refine And.intro g8 ?_;clear g8;(conv=>whnf);refine And.intro (by kernel_rfl) ?_;(conv=>whnf);refine andI g4 (fun _ g4=>?_) (fun _ g4=>?_)
      · (conv=>whnf);obtain rfl:=Option.some.inj g4;exact ⟨_,rfl,leX []⟩
      · (conv=>whnf);obtain rfl:=Option.some.inj g4;exact ⟨_,rfl,leX []⟩
    · (conv=>whnf);obtain rfl:=Option.some.inj g4;obtain rfl:=hy3 _ rfl;obtain rfl:=Option.some.inj h;exact lfP []
noncomputable def spec_l84Up_m (a0:TreeWorld) (a1:(List Int)) (a2:Int):Option (Int) :=
 bd (lp (σ:=Int × Int × Int) (β:=(Int)) (fun s1 =>
(if (decide (s1.2.2<((a0.Links.length:Nat):Int))) = true then
 bd (spec_l82At_m a0 a2 s1.2.2) fun x5 =>
 bd (gcall ((decide (x5.2<0)) = false) (spec_l83Open_m a0 s1.2.2)) fun x6 =>
 gd (((decide (x5.2<0)) || (!x6)) = false → ((0:Int)≤x5.2∧x5.2<((a1.length:Nat):Int))) <|
 gd (((decide (x5.2<0)) || (!x6)) = false → ((0:Int)≤s1.2.2∧s1.2.2<((a0.Links.length:Nat):Int))) <|
 gd (((decide (x5.2<0)) || (!x6)) = false → ((0:Int)≤a2∧a2<((a1.length:Nat):Int))) <|
(if (((decide (x5.2<0)) || (!x6)) || ((IntKind.i64.wrap ((a1.getD x5.2.toNat default)+((a0.Links.getD s1.2.2.toNat default).Cost))) != (a1.getD a2.toNat default))) = true then
 some (.inl (s1.1,s1.2.1,IntKind.i64.wrap (s1.2.2+1)))
else
 gd ((decide (s1.1<0)) = false → ((0:Int)≤x5.2∧x5.2<((a0.Bridges.length:Nat):Int))) <|
(if ((decide (s1.1<0)) || (decide (((a0.Bridges.getD x5.2.toNat default).Id)<s1.2.1))) = true then
 gd ((0:Int)≤x5.2∧x5.2<((a0.Bridges.length:Nat):Int)) <|
 some (.inl (s1.2.2,(a0.Bridges.getD x5.2.toNat default).Id,IntKind.i64.wrap (s1.2.2+1)))
else
 some (.inl (s1.1,s1.2.1,IntKind.i64.wrap (s1.2.2+1)))))
else
 some (.inr s1.1))) (-1,0,0)) fun x4 =>
 some x4
theorem spec_l84Up_c {a0:TreeWorld} {a1:(List Int)} {a2:Int} {r:Int} (h:spec_l84Up_m a0 a1 a2 = some r):PureC Try.prog 78 [.agg [.d (slD TreeBridge.enc a0.Bridges),.d (slD TreeLink.enc a0.Links),.d (slD encInt a0.Down),.d (slD TreeSlot.enc a0.AtA),.d (slD TreeSlot.enc a0.AtB),.d (slD TreeWord.enc a0.Radio)],.d (slD encInt a1),.d (.int .i64 a2)] (.d (.int .i64 r)) []:=by
  refine pureC_x tOk (fn:=Try.f78) (c:=codeOf Try.f78) rfl rfl ?_;unfold spec_l84Up_m at h;(conv=>whnf);refine seq_in tOk ?_;(conv=>whnf);obtain ⟨x4,hx4,h⟩:=bd_some h;refine loop_m tOk hx4 (fun s1=>⟨0,72,[(1,.d (slD encInt a1)),(2,.d (.int .i64 a2)),(3,.ref 3 0 0),(7,.d (.int .i64 s1.1)),(8,.d (.int .i64 s1.2.1)),(9,.d (.int .i64 s1.2.2))],[],[(3,.box 29 [.d (slD TreeBridge.enc a0.Bridges),.d (slD TreeLink.enc a0.Links),.d (slD encInt a0.Down),.d (slD TreeSlot.enc a0.AtA),.d (slD TreeSlot.enc a0.AtB),.d (slD TreeWord.enc a0.Radio)])],[]⟩) ?_ ?_
  · exact leX []
  · clear hx4;intro s1 y2 g3 hy2;(conv=>whnf);refine seq_in tOk ?_;(conv=>whnf);refine andI g3 (fun _ g3=>?_) (fun _ g3=>?_)
    · (conv=>whnf);refine seq_in tOk ?_;(conv=>whnf);obtain ⟨x5,hx5,g3⟩:=bd_some g3;refine cC 0 (spec_l82At_c hx5) ?_;clear hx5;(conv=>whnf);refine seq_in tOk ?_;(conv=>whnf);obtain ⟨x6,hx6,g3⟩:=bd_some g3;obtain ⟨g7,g3⟩:=gd_some g3;obtain ⟨g8,g3⟩:=gd_some g3;obtain ⟨g9,g3⟩:=gd_some g3;refine draw_u tOk [.u 5 0 (.d (.bool x6)) []] 26 [] [0,1,3,7,7,31,63,127,255,511,511,2047,4095,511,8703,511,57855,123391,254463,524287,511,511,3146239,7340543,16777215,33554431] [] ?_;(conv=>whnf);refine And.intro (callDG_if rfl rfl rfl rfl (by intro c0; exact spec_l83Open_c (gcall_some hx6 c0))) ?_;(conv=>whnf);refine And.intro g7 ?_;clear g7;(conv=>whnf);refine And.intro g8 ?_;clear g8;(conv=>whnf);refine And.intro g9 ?_;clear g9;(conv=>whnf);refine And.intro (by kernel_rfl) ?_;(conv=>whnf);refine andI g3 (fun _ g3=>?_) (fun _ g3=>?_)
      · (conv=>whnf);obtain rfl:=Option.some.inj g3;exact ⟨_,rfl,leX []⟩
      · (conv=>whnf);refine gdI g3 (fun g3=>?_);(conv=>whnf);refine andI g3 (fun _ g3=>?_) (fun _ g3=>?_)
        · (conv=>whnf);refine gdI g3 (fun g3=>?_);(conv=>whnf);obtain rfl:=Option.some.inj g3;exact ⟨_,rfl,leX []⟩
        · (conv=>whnf);obtain rfl:=Option.some.inj g3;exact ⟨_,rfl,leX []⟩
    · (conv=>whnf);obtain rfl:=Option.some.inj g3;obtain rfl:=hy2 _ rfl;obtain rfl:=Option.some.inj h;exact lfP []
noncomputable def spec_l84Mind_m (a0:TreeWorld) (a1:Int):Option (TreeMind) :=
 bd (spec_l84Root_m a0 a1) fun x1 =>
 bd (spec_l84Costs_m a0 x1) fun x2 =>
 gd ((0:Int)≤x1∧x1<((a0.Bridges.length:Nat):Int)) <|
 gd ((0:Int)≤a1∧a1<((x2.length:Nat):Int)) <|
 bd (α:=Int) ((if (a1 != x1) = true then
 bd (spec_l84Up_m a0 x2 a1) fun x8 =>
 some x8
else
 some (-1))) fun x5 =>
 bd (lp (σ:=Int × Int) (β:=(Int)) (fun s9 =>
(if ((s9.2 != x1) && (decide (s9.1<((a0.Bridges.length:Nat):Int)))) = true then
 bd (spec_l84Up_m a0 x2 s9.2) fun x13 =>
 bd (spec_l82At_m a0 s9.2 x13) fun x14 =>
 some (.inl (IntKind.i64.wrap (s9.1+1),x14.2))
else
 some (.inr s9.1))) (0,a1)) fun x12 =>
 some (⟨(⟨(a0.Bridges.getD x1.toNat default).Id,(x2.getD a1.toNat default),x12⟩:TreeVector),x5⟩:TreeMind)
theorem spec_l84Mind_c {a0:TreeWorld} {a1:Int} {r:TreeMind} (h:spec_l84Mind_m a0 a1 = some r):PureC Try.prog 35 [.agg [.d (slD TreeBridge.enc a0.Bridges),.d (slD TreeLink.enc a0.Links),.d (slD encInt a0.Down),.d (slD TreeSlot.enc a0.AtA),.d (slD TreeSlot.enc a0.AtB),.d (slD TreeWord.enc a0.Radio)],.d (.int .i64 a1)] (.agg [.d (.int .i64 r.Vector.Root),.d (.int .i64 r.Vector.Cost),.d (.int .i64 r.Vector.Age),.d (.int .i64 r.Link)]) []:=by
  refine pureC_x tOk (fn:=Try.f35) (c:=codeOf Try.f35) rfl rfl ?_;unfold spec_l84Mind_m at h;(conv=>whnf);obtain ⟨x1,hx1,h⟩:=bd_some h;refine cC 0 (spec_l84Root_c hx1) ?_;clear hx1;(conv=>whnf);obtain ⟨x2,hx2,h⟩:=bd_some h;refine cC 1000 (spec_l84Costs_c hx2) ?_;clear hx2;(conv=>whnf);obtain ⟨g3,h⟩:=gd_some h;obtain ⟨g4,h⟩:=gd_some h;refine draw_u tOk [] 13 [] [0,1,0,7,15,31,0,0,192,448,1023,2047,0] [8191] ?_;(conv=>whnf);refine And.intro g3 ?_;clear g3;(conv=>whnf);refine And.intro g4 ?_;clear g4;(conv=>whnf);refine And.intro (by kernel_rfl) ?_;(conv=>whnf);obtain ⟨x5,hx5,h⟩:=bd_some h;refine seq_join tOk (fun s6=>⟨0,67,[(1,.d (.int .i64 a1)),(2,.ref 2 0 0),(4,.ref 4 0 0),(5,.d (.int .i64 x1)),(6,.osl 6001 0 x2.length),(7,.ref 7 0 0)],[],[(7,.box 41 [.d (.int .i64 ((a0.Bridges.getD x1.toNat default).Id)),.d (.int .i64 (x2.getD a1.toNat default)),.d (.int .i64 0),.d (.int .i64 s6)]),(6001,.arr 3 1 x2.length (rows encInt x2)),(4,.box 41 [.d (.int .i64 0),.d (.int .i64 0),.d (.int .i64 0),.d (.int .i64 0)]),(2,.box 29 [.d (slD TreeBridge.enc a0.Bridges),.d (slD TreeLink.enc a0.Links),.d (slD encInt a0.Down),.d (slD TreeSlot.enc a0.AtA),.d (slD TreeSlot.enc a0.AtB),.d (slD TreeWord.enc a0.Radio)])],[]⟩) (fun s6=>x5 = s6) ?_ ?_
  · (conv=>whnf);refine andI hx5 (fun _ hx5=>?_) (fun _ hx5=>?_)
    · (conv=>whnf);obtain ⟨x8,hx8,hx5⟩:=bd_some hx5;refine cC 0 (spec_l84Up_c hx8) ?_;clear hx8;(conv=>whnf);obtain rfl:=Option.some.inj hx5;exact ⟨_,rfl,leX []⟩
    · (conv=>whnf);obtain rfl:=Option.some.inj hx5;exact ⟨_,rfl,leX []⟩
  · rintro _ rfl;(conv=>whnf);refine seq_in tOk ?_;(conv=>whnf);obtain ⟨x12,hx12,h⟩:=bd_some h;refine loop_m tOk hx12 (fun s9=>⟨0,67,[(2,.ref 2 0 0),(4,.ref 4 0 0),(5,.d (.int .i64 x1)),(6,.osl 6001 0 x2.length),(7,.ref 7 0 0),(8,.d (.int .i64 s9.2))],[],[(7,.box 41 [.d (.int .i64 ((a0.Bridges.getD x1.toNat default).Id)),.d (.int .i64 (x2.getD a1.toNat default)),.d (.int .i64 s9.1),.d (.int .i64 x5)]),(6001,.arr 3 1 x2.length (rows encInt x2)),(4,.box 41 [.d (.int .i64 0),.d (.int .i64 0),.d (.int .i64 0),.d (.int .i64 0)]),(2,.box 29 [.d (slD TreeBridge.enc a0.Bridges),.d (slD TreeLink.enc a0.Links),.d (slD encInt a0.Down),.d (slD TreeSlot.enc a0.AtA),.d (slD TreeSlot.enc a0.AtB),.d (slD TreeWord.enc a0.Radio)])],[]⟩) ?_ ?_
    · exact leX []
    · clear hx12;intro s9 y10 g11 hy10;(conv=>whnf);refine seq_in tOk ?_;(conv=>whnf);refine andI g11 (fun _ g11=>?_) (fun _ g11=>?_)
      · (conv=>whnf);obtain ⟨x13,hx13,g11⟩:=bd_some g11;refine cC 0 (spec_l84Up_c hx13) ?_;clear hx13;(conv=>whnf);obtain ⟨x14,hx14,g11⟩:=bd_some g11;refine cC 0 (spec_l82At_c hx14) ?_;clear hx14;(conv=>whnf);obtain rfl:=Option.some.inj g11;exact ⟨_,rfl,leX []⟩
      · (conv=>whnf);obtain rfl:=Option.some.inj g11;obtain rfl:=hy10 _ rfl;obtain rfl:=Option.some.inj h;exact lfP []
noncomputable def spec_TreeBest_m (a0:TreeWorld):Option ((List TreeMind)) :=
 bd (spec_TreeWorldOk_m a0) fun x1 =>
(if (!x1) = true then
 some []
else
 bd (lp (σ:=List TreeMind × Int) (β:=(Nat × (List TreeMind))) (fun s2 =>
(if (decide (s2.2<((a0.Bridges.length:Nat):Int))) = true then
 gd ((0:Int)≤s2.2∧s2.2<((a0.Bridges.length:Nat):Int)) <|
(if (a0.Bridges.getD s2.2.toNat default).Up = true then
 bd (spec_l84Mind_m a0 s2.2) fun x7 =>
 gd (((s2.1.length)+(([x7]:List TreeMind).length)) * (32+1)≤70368744177664) <|
 some (.inl ((s2.1 ++ ([x7]:List TreeMind)),IntKind.i64.wrap (s2.2+1)))
else
 gd (((s2.1.length)+(([(⟨(⟨0,0,0⟩:TreeVector),0⟩:TreeMind)]:List TreeMind).length)) * (32+1)≤70368744177664) <|
 some (.inl ((s2.1 ++ ([(⟨(⟨0,0,0⟩:TreeVector),0⟩:TreeMind)]:List TreeMind)),IntKind.i64.wrap (s2.2+1))))
else
 some (.inr (s2.1.length,s2.1)))) (([]:List TreeMind),0)) fun x5 =>
 some x5.2)
theorem spec_TreeBest_c {a0:TreeWorld} {r:(List TreeMind)} (h:spec_TreeBest_m a0 = some r):PureC Try.prog 11 [.agg [.d (slD TreeBridge.enc a0.Bridges),.d (slD TreeLink.enc a0.Links),.d (slD encInt a0.Down),.d (slD TreeSlot.enc a0.AtA),.d (slD TreeSlot.enc a0.AtB),.d (slD TreeWord.enc a0.Radio)]] (.osl 5001 0 r.length) [⟨5001,41,4,r.length,rows TreeMind.enc r⟩]:=by
  refine pureC_x tOk (fn:=Try.f11) (c:=codeOf Try.f11) rfl rfl ?_;unfold spec_TreeBest_m at h;(conv=>whnf);refine seq_in tOk ?_;(conv=>whnf);obtain ⟨x1,hx1,h⟩:=bd_some h;refine cC 0 (spec_TreeWorldOk_c hx1) ?_;clear hx1;(conv=>whnf);refine andI h (fun _ h=>?_) (fun _ h=>?_)
  · (conv=>whnf);obtain rfl:=Option.some.inj h;exact lfP [.k [1],.p 5001 41 4 (rows TreeMind.enc ([]:List TreeMind))]
  · (conv=>whnf);refine seq_in tOk ?_;(conv=>whnf);obtain ⟨x5,hx5,h⟩:=bd_some h;refine loop_m tOk hx5 (fun s2=>⟨0,34,[(1,.ref 1 0 0),(3,.osl 7001 0 s2.1.length),(4,.d (.int .i64 s2.2))],[],[(7001,.arr 41 4 s2.1.length (rows TreeMind.enc s2.1)),(1,.box 29 [.d (slD TreeBridge.enc a0.Bridges),.d (slD TreeLink.enc a0.Links),.d (slD encInt a0.Down),.d (slD TreeSlot.enc a0.AtA),.d (slD TreeSlot.enc a0.AtB),.d (slD TreeWord.enc a0.Radio)])],[]⟩) ?_ ?_
    · exact leX [.p 7001 41 4 (rows TreeMind.enc ([]:List TreeMind))]
    · clear hx5;intro s2 y3 g4 hy3;(conv=>whnf);refine seq_in tOk ?_;(conv=>whnf);refine andI g4 (fun _ g4=>?_) (fun _ g4=>?_)
      · (conv=>whnf);refine seq_in tOk ?_;(conv=>whnf);refine gdI g4 (fun g4=>?_);(conv=>whnf);refine andI g4 (fun _ g4=>?_) (fun _ g4=>?_)
        · (conv=>whnf);obtain ⟨x7,hx7,g4⟩:=bd_some g4;refine cC 0 (spec_l84Mind_c hx7) ?_;clear hx7;(conv=>whnf);refine bldS (enc:=TreeMind.enc) ([x7]:List TreeMind) ?_;(conv=>whnf);refine gdI g4 (fun g4=>?_);refine appS (enc:=TreeMind.enc) (xs:=s2.1) (ys:=([x7]:List TreeMind)) ?_;(conv=>whnf);obtain rfl:=Option.some.inj g4;exact ⟨_,rfl,leX []⟩
        · (conv=>whnf);refine bldS (enc:=TreeMind.enc) ([(⟨(⟨0,0,0⟩:TreeVector),0⟩:TreeMind)]:List TreeMind) ?_;(conv=>whnf);refine gdI g4 (fun g4=>?_);refine appS (enc:=TreeMind.enc) (xs:=s2.1) (ys:=([(⟨(⟨0,0,0⟩:TreeVector),0⟩:TreeMind)]:List TreeMind)) ?_;(conv=>whnf);obtain rfl:=Option.some.inj g4;exact ⟨_,rfl,leX []⟩
      · (conv=>whnf);obtain rfl:=Option.some.inj g4;obtain rfl:=hy3 _ rfl;obtain rfl:=Option.some.inj h;exact lfP [.s [(5001,7001),(7001,5001)]]
noncomputable def laws_wtMinds_m (a0:(List TreeMind)) (a1:(List TreeMind)):Option (Bool) :=
(if (((a0.length:Nat):Int) != ((a1.length:Nat):Int)) = true then
 some false
else
 bd (lp (σ:=Int) (β:=(Unit ⊕ Unit)) (fun s1 =>
(if (decide (s1<((a0.length:Nat):Int))) = true then
 gd ((0:Int)≤s1∧s1<((a0.length:Nat):Int)) <|
 gd ((0:Int)≤s1∧s1<((a1.length:Nat):Int)) <|
(if (!((((((a0.getD s1.toNat default).Vector).Root) == (((a1.getD s1.toNat default).Vector).Root)) && (((((a0.getD s1.toNat default).Vector).Cost) == (((a1.getD s1.toNat default).Vector).Cost)) && (((((a0.getD s1.toNat default).Vector).Age) == (((a1.getD s1.toNat default).Vector).Age)) && true))) && ((((a0.getD s1.toNat default).Link) == ((a1.getD s1.toNat default).Link)) && true))) = true then
 some (.inr (.inl ()))
else
 some (.inl (IntKind.i64.wrap (s1+1))))
else
 some (.inr (.inr ())))) 0) fun x4 =>
(match x4 with
| .inl d7 =>
 some false
| .inr d8 =>
 some true))
theorem laws_wtMinds_c {a0:(List TreeMind)} {a1:(List TreeMind)} {r:Bool} (h:laws_wtMinds_m a0 a1 = some r):PureC Try.prog 10 [.d (slD TreeMind.enc a0),.d (slD TreeMind.enc a1)] (.d (.bool r)) []:=by
  refine pureC_x tOk (fn:=Try.f10) (c:=codeOf Try.f10) rfl rfl ?_;unfold laws_wtMinds_m at h;(conv=>whnf);refine seq_in tOk ?_;(conv=>whnf);refine andI h (fun _ h=>?_) (fun _ h=>?_)
  · (conv=>whnf);obtain rfl:=Option.some.inj h;exact lfP []
  · (conv=>whnf);refine seq_in tOk ?_;(conv=>whnf);obtain ⟨x4,hx4,h⟩:=bd_some h;refine loop_m tOk hx4 (fun s1=>⟨0,26,[(0,.d (slD TreeMind.enc a0)),(1,.d (slD TreeMind.enc a1)),(5,.d (.int .i64 s1))],[],[],[]⟩) ?_ ?_
    · exact leX []
    · clear hx4;intro s1 y2 g3 hy2;(conv=>whnf);refine seq_in tOk ?_;(conv=>whnf);refine andI g3 (fun _ g3=>?_) (fun _ g3=>?_)
      · (conv=>whnf);refine seq_in tOk ?_;(conv=>whnf);obtain ⟨g5,g3⟩:=gd_some g3;obtain ⟨g6,g3⟩:=gd_some g3;refine draw_u tOk [] 9 [] [0,0,3,7,0,0,48,112,255] [] ?_;(conv=>whnf);refine And.intro g5 ?_;clear g5;(conv=>whnf);refine And.intro g6 ?_;clear g6;(conv=>whnf);refine And.intro (by kernel_rfl) ?_;(conv=>whnf);refine andI g3 (fun _ g3=>?_) (fun _ g3=>?_)
        · (conv=>whnf);obtain rfl:=Option.some.inj g3;obtain rfl:=hy2 _ rfl;obtain rfl:=Option.some.inj h;exact lfP []
        · (conv=>whnf);obtain rfl:=Option.some.inj g3;exact ⟨_,rfl,leX []⟩
      · (conv=>whnf);obtain rfl:=Option.some.inj g3;obtain rfl:=hy2 _ rfl;obtain rfl:=Option.some.inj h;exact lfP []
noncomputable def laws_wtDown_m (a0:TreeWorld) (a1:Int):Option (Bool) :=
 bd (lp (σ:=Int) (β:=(Unit ⊕ Unit)) (fun s1 =>
(if (decide (s1<((a0.Down.length:Nat):Int))) = true then
 gd ((0:Int)≤s1∧s1<((a0.Down.length:Nat):Int)) <|
(if ((a0.Down.getD s1.toNat default) == a1) = true then
 some (.inr (.inl ()))
else
 some (.inl (IntKind.i64.wrap (s1+1))))
else
 some (.inr (.inr ())))) 0) fun x4 =>
(match x4 with
| .inl d6 =>
 some true
| .inr d7 =>
 gd ((0:Int)≤a1∧a1<((a0.Links.length:Nat):Int)) <|
 gd ((0:Int)≤(a0.Links.getD a1.toNat default).A∧(a0.Links.getD a1.toNat default).A<((a0.Bridges.length:Nat):Int)) <|
 gd ((!((a0.Bridges.getD (((a0.Links.getD a1.toNat default).A).toNat) default).Up)) = false → ((0:Int)≤a1∧a1<((a0.Links.length:Nat):Int))) <|
 gd ((!((a0.Bridges.getD (((a0.Links.getD a1.toNat default).A).toNat) default).Up)) = false → ((0:Int)≤(a0.Links.getD a1.toNat default).B∧(a0.Links.getD a1.toNat default).B<((a0.Bridges.length:Nat):Int))) <|
 some ((!((a0.Bridges.getD (((a0.Links.getD a1.toNat default).A).toNat) default).Up)) || (!((a0.Bridges.getD (((a0.Links.getD a1.toNat default).B).toNat) default).Up))))
theorem laws_wtDown_c {a0:TreeWorld} {a1:Int} {r:Bool} (h:laws_wtDown_m a0 a1 = some r):PureC Try.prog 15 [.agg [.d (slD TreeBridge.enc a0.Bridges),.d (slD TreeLink.enc a0.Links),.d (slD encInt a0.Down),.d (slD TreeSlot.enc a0.AtA),.d (slD TreeSlot.enc a0.AtB),.d (slD TreeWord.enc a0.Radio)],.d (.int .i64 a1)] (.d (.bool r)) []:=by
  refine pureC_x tOk (fn:=Try.f15) (c:=codeOf Try.f15) rfl rfl ?_;unfold laws_wtDown_m at h;(conv=>whnf);refine seq_in tOk ?_;(conv=>whnf);obtain ⟨x4,hx4,h⟩:=bd_some h;refine loop_m tOk hx4 (fun s1=>⟨0,46,[(1,.d (.int .i64 a1)),(2,.ref 2 0 0),(5,.d (.int .i64 s1))],[],[(2,.box 29 [.d (slD TreeBridge.enc a0.Bridges),.d (slD TreeLink.enc a0.Links),.d (slD encInt a0.Down),.d (slD TreeSlot.enc a0.AtA),.d (slD TreeSlot.enc a0.AtB),.d (slD TreeWord.enc a0.Radio)])],[]⟩) ?_ ?_
  · exact leX []
  · clear hx4;intro s1 y2 g3 hy2;(conv=>whnf);refine seq_in tOk ?_;(conv=>whnf);refine andI g3 (fun _ g3=>?_) (fun _ g3=>?_)
    · (conv=>whnf);refine seq_in tOk ?_;(conv=>whnf);refine gdI g3 (fun g3=>?_);(conv=>whnf);refine andI g3 (fun _ g3=>?_) (fun _ g3=>?_)
      · (conv=>whnf);obtain rfl:=Option.some.inj g3;obtain rfl:=hy2 _ rfl;obtain rfl:=Option.some.inj h;exact lfP []
      · (conv=>whnf);obtain rfl:=Option.some.inj g3;exact ⟨_,rfl,leX []⟩
    · (conv=>whnf);obtain rfl:=Option.some.inj g3;obtain rfl:=hy2 _ rfl;obtain ⟨g8,h⟩:=gd_some h;obtain ⟨g9,h⟩:=gd_some h;obtain ⟨g10,h⟩:=gd_some h;obtain ⟨g11,h⟩:=gd_some h;refine draw_u tOk [] 27 [] [0,1,0,4,0,28,60,124,255,511,1023,2047,4095,8191,16383,8191,40959,8191,237567,499711,1023999,2097151,4194303,8388607,16777215,33554431,67108863] [] ?_;(conv=>whnf);refine And.intro g8 ?_;clear g8;(conv=>whnf);refine And.intro g9 ?_;clear g9;(conv=>whnf);refine And.intro g10 ?_;clear g10;(conv=>whnf);refine And.intro g11 ?_;clear g11;(conv=>whnf);refine And.intro (by kernel_rfl) ?_;(conv=>whnf);obtain rfl:=Option.some.inj h;exact lfP []
noncomputable def laws_wtAll_m (a0:TreeWorld):Option ((List Int)) :=
 bd (lp (σ:=List Int × Int) (β:=(Nat × (List Int))) (fun s1 =>
(if (decide (s1.2<((a0.Links.length:Nat):Int))) = true then
 bd (laws_wtDown_m a0 s1.2) fun x5 =>
(if (!x5) = true then
 gd (((s1.1.length)+(([s1.2]:List Int).length)) * (8+1)≤70368744177664) <|
 some (.inl ((s1.1 ++ ([s1.2]:List Int)),IntKind.i64.wrap (s1.2+1)))
else
 some (.inl (s1.1,IntKind.i64.wrap (s1.2+1))))
else
 some (.inr (s1.1.length,s1.1)))) (([]:List Int),0)) fun x4 =>
 some x4.2
theorem laws_wtAll_c {a0:TreeWorld} {r:(List Int)} (h:laws_wtAll_m a0 = some r):PureC Try.prog 14 [.agg [.d (slD TreeBridge.enc a0.Bridges),.d (slD TreeLink.enc a0.Links),.d (slD encInt a0.Down),.d (slD TreeSlot.enc a0.AtA),.d (slD TreeSlot.enc a0.AtB),.d (slD TreeWord.enc a0.Radio)]] (.osl 5001 0 r.length) [⟨5001,3,1,r.length,rows encInt r⟩]:=by
  refine pureC_x tOk (fn:=Try.f14) (c:=codeOf Try.f14) rfl rfl ?_;unfold laws_wtAll_m at h;(conv=>whnf);refine seq_in tOk ?_;(conv=>whnf);obtain ⟨x4,hx4,h⟩:=bd_some h;refine loop_m tOk hx4 (fun s1=>⟨0,22,[(1,.ref 1 0 0),(3,.osl 7001 0 s1.1.length),(4,.d (.int .i64 s1.2))],[],[(7001,.arr 3 1 s1.1.length (rows encInt s1.1)),(1,.box 29 [.d (slD TreeBridge.enc a0.Bridges),.d (slD TreeLink.enc a0.Links),.d (slD encInt a0.Down),.d (slD TreeSlot.enc a0.AtA),.d (slD TreeSlot.enc a0.AtB),.d (slD TreeWord.enc a0.Radio)])],[]⟩) ?_ ?_
  · exact leX [.p 7001 3 1 (rows encInt ([]:List Int))]
  · clear hx4;intro s1 y2 g3 hy2;(conv=>whnf);refine seq_in tOk ?_;(conv=>whnf);refine andI g3 (fun _ g3=>?_) (fun _ g3=>?_)
    · (conv=>whnf);refine seq_in tOk ?_;(conv=>whnf);obtain ⟨x5,hx5,g3⟩:=bd_some g3;refine cC 0 (laws_wtDown_c hx5) ?_;clear hx5;(conv=>whnf);refine andI g3 (fun _ g3=>?_) (fun _ g3=>?_)
      · (conv=>whnf);refine bldS (enc:=encInt) ([s1.2]:List Int) ?_;(conv=>whnf);refine gdI g3 (fun g3=>?_);refine appS (enc:=encInt) (xs:=s1.1) (ys:=([s1.2]:List Int)) ?_;(conv=>whnf);obtain rfl:=Option.some.inj g3;exact ⟨_,rfl,leX []⟩
      · (conv=>whnf);obtain rfl:=Option.some.inj g3;exact ⟨_,rfl,leX []⟩
    · (conv=>whnf);obtain rfl:=Option.some.inj g3;obtain rfl:=hy2 _ rfl;obtain rfl:=Option.some.inj h;exact lfP [.s [(5001,7001),(7001,5001)]]
noncomputable def laws_wtHeads_m (a0:TreeWorld) (a1:(List Int)):Option ((List Int) × Bool) :=
 gd ((0:Int)≤((a0.Bridges.length:Nat):Int)∧((a0.Bridges.length:Nat):Int)≤((a0.Bridges.length:Nat):Int)∧((a0.Bridges.length:Nat):Int) * 8≤140737488355328∧((a0.Bridges.length:Nat):Int)≤140737488355328) <|
 bd (lp (σ:=List Int × Int) (β:=(Nat × (List Int))) (fun s1 =>
(if (decide (s1.2<((s1.1.length:Nat):Int))) = true then
 gd ((0:Int)≤s1.2∧s1.2<((s1.1.length:Nat):Int)) <|
 some (.inl (s1.1.set s1.2.toNat s1.2,IntKind.i64.wrap (s1.2+1)))
else
 some (.inr (s1.1.length,s1.1)))) ((List.replicate (((a0.Bridges.length:Nat):Int):Int).toNat (default:Int)),0)) fun x4 =>
 bd (lp (σ:=List Int × Bool × Int) (β:=(Nat × Bool × (List Int))) (fun s7 =>
(if (decide (s7.2.2<((a1.length:Nat):Int))) = true then
 gd ((0:Int)≤s7.2.2∧s7.2.2<((a1.length:Nat):Int)) <|
 gd ((0:Int)≤(a1.getD s7.2.2.toNat default)∧(a1.getD s7.2.2.toNat default)<((a0.Links.length:Nat):Int)) <|
 gd ((0:Int)≤(a0.Links.getD ((a1.getD s7.2.2.toNat default).toNat) default).A∧(a0.Links.getD ((a1.getD s7.2.2.toNat default).toNat) default).A<((s7.1.length:Nat):Int)) <|
 gd ((0:Int)≤s7.2.2∧s7.2.2<((a1.length:Nat):Int)) <|
 gd ((0:Int)≤(a1.getD s7.2.2.toNat default)∧(a1.getD s7.2.2.toNat default)<((a0.Links.length:Nat):Int)) <|
 gd ((0:Int)≤(a0.Links.getD ((a1.getD s7.2.2.toNat default).toNat) default).B∧(a0.Links.getD ((a1.getD s7.2.2.toNat default).toNat) default).B<((s7.1.length:Nat):Int)) <|
 bd (α:=Bool) ((if ((s7.1.getD (((a0.Links.getD ((a1.getD s7.2.2.toNat default).toNat) default).A).toNat) default) == (s7.1.getD (((a0.Links.getD ((a1.getD s7.2.2.toNat default).toNat) default).B).toNat) default)) = true then
 some false
else
 some s7.2.1)) fun x17 =>
 bd (lp (σ:=List Int × Int) (β:=(Nat × (List Int))) (fun s20 =>
(if (decide (s20.2<((s20.1.length:Nat):Int))) = true then
 gd ((0:Int)≤s20.2∧s20.2<((s20.1.length:Nat):Int)) <|
 gd (((s20.1.getD s20.2.toNat default) == (s7.1.getD (((a0.Links.getD ((a1.getD s7.2.2.toNat default).toNat) default).A).toNat) default)) = false → ((0:Int)≤s20.2∧s20.2<((s20.1.length:Nat):Int))) <|
(if (((s20.1.getD s20.2.toNat default) == (s7.1.getD (((a0.Links.getD ((a1.getD s7.2.2.toNat default).toNat) default).A).toNat) default)) || ((s20.1.getD s20.2.toNat default) == (s7.1.getD (((a0.Links.getD ((a1.getD s7.2.2.toNat default).toNat) default).B).toNat) default))) = true then
(if (decide ((s7.1.getD (((a0.Links.getD ((a1.getD s7.2.2.toNat default).toNat) default).A).toNat) default)<(s7.1.getD (((a0.Links.getD ((a1.getD s7.2.2.toNat default).toNat) default).B).toNat) default))) = true then
 gd ((0:Int)≤s20.2∧s20.2<((s20.1.length:Nat):Int)) <|
 bd (some (s20.1.set s20.2.toNat (s7.1.getD (((a0.Links.getD ((a1.getD s7.2.2.toNat default).toNat) default).A).toNat) default))) fun x27 =>
 some (.inl (x27,IntKind.i64.wrap (s20.2+1)))
else
 gd ((0:Int)≤s20.2∧s20.2<((s20.1.length:Nat):Int)) <|
 bd (some (s20.1.set s20.2.toNat (s7.1.getD (((a0.Links.getD ((a1.getD s7.2.2.toNat default).toNat) default).B).toNat) default))) fun x29 =>
 some (.inl (x29,IntKind.i64.wrap (s20.2+1))))
else
 some (.inl (s20.1,IntKind.i64.wrap (s20.2+1))))
else
 some (.inr (s20.1.length,s20.1)))) (s7.1,0)) fun x23 =>
 some (.inl (x23.2,x17,IntKind.i64.wrap (s7.2.2+1)))
else
 some (.inr (s7.1.length,s7.2.1,s7.1)))) (x4.2,true,0)) fun x10 =>
 some (x10.2.2,x10.2.1)
theorem laws_wtHeads_c {a0:TreeWorld} {a1:(List Int)} {r:(List Int) × Bool} (h:laws_wtHeads_m a0 a1 = some r):PureC Try.prog 13 [.agg [.d (slD TreeBridge.enc a0.Bridges),.d (slD TreeLink.enc a0.Links),.d (slD encInt a0.Down),.d (slD TreeSlot.enc a0.AtA),.d (slD TreeSlot.enc a0.AtB),.d (slD TreeWord.enc a0.Radio)],.d (slD encInt a1)] (.tup [.osl 5001 0 r.1.length,.d (.bool r.2)]) [⟨5001,3,1,r.1.length,rows encInt r.1⟩]:=by
  refine pureC_x tOk (fn:=Try.f13) (c:=codeOf Try.f13) rfl rfl ?_;unfold laws_wtHeads_m at h;(conv=>whnf);obtain ⟨g32,h⟩:=gd_some h;refine And.intro g32 ?_;clear g32;refine ⟨(List.replicate (((a0.Bridges.length:Nat):Int):Int).toNat (default:Int)).length,rows encInt (List.replicate (((a0.Bridges.length:Nat):Int):Int).toNat (default:Int)),by simp,make_rows rfl,?_⟩;(conv=>whnf);refine seq_in tOk ?_;(conv=>whnf);obtain ⟨x4,hx4,h⟩:=bd_some h;refine loop_m tOk hx4 (fun s1=>⟨0,93,[(1,.d (slD encInt a1)),(2,.ref 2 0 0),(6,.osl 16 0 s1.1.length),(7,.d (.int .i64 s1.2))],[],[(16,.arr 3 1 s1.1.length (rows encInt s1.1)),(2,.box 29 [.d (slD TreeBridge.enc a0.Bridges),.d (slD TreeLink.enc a0.Links),.d (slD encInt a0.Down),.d (slD TreeSlot.enc a0.AtA),.d (slD TreeSlot.enc a0.AtB),.d (slD TreeWord.enc a0.Radio)])],[]⟩) ?_ ?_
  · exact leX []
  · clear hx4;intro s1 y2 g3 hy2;(conv=>whnf);refine seq_in tOk ?_;(conv=>whnf);refine andI g3 (fun _ g3=>?_) (fun _ g3=>?_)
    · (conv=>whnf);refine seq_in tOk ?_;(conv=>whnf);refine gdI g3 (fun g3=>?_);(conv=>whnf);refine ⟨rows encInt (s1.1.set s1.2.toNat s1.2),store_rows' lenA rfl,?_⟩;(conv=>whnf);obtain rfl:=Option.some.inj g3;exact ⟨_,rfl,leX []⟩
    · (conv=>whnf);obtain rfl:=Option.some.inj g3;obtain rfl:=hy2 _ rfl;refine seq_in tOk ?_;(conv=>whnf);obtain ⟨x10,hx10,h⟩:=bd_some h;refine loop_m tOk hx10 (fun s7=>⟨0,93,[(1,.d (slD encInt a1)),(2,.ref 2 0 0),(6,.osl 16 0 s7.1.length),(8,.d (.bool s7.2.1)),(9,.d (.int .i64 s7.2.2))],[],[(16,.arr 3 1 s7.1.length (rows encInt s7.1)),(2,.box 29 [.d (slD TreeBridge.enc a0.Bridges),.d (slD TreeLink.enc a0.Links),.d (slD encInt a0.Down),.d (slD TreeSlot.enc a0.AtA),.d (slD TreeSlot.enc a0.AtB),.d (slD TreeWord.enc a0.Radio)])],[]⟩) ?_ ?_
      · exact leX []
      · clear hx10;intro s7 y8 g9 hy8;(conv=>whnf);refine seq_in tOk ?_;(conv=>whnf);refine andI g9 (fun _ g9=>?_) (fun _ g9=>?_)
        · (conv=>whnf);refine seq_in tOk ?_;(conv=>whnf);obtain ⟨g11,g9⟩:=gd_some g9;obtain ⟨g12,g9⟩:=gd_some g9;obtain ⟨g13,g9⟩:=gd_some g9;refine draw_u tOk [] 13 [] [0,0,2,0,0,24,56,126,254,510,1023,2047,4095] [] ?_;(conv=>whnf);refine And.intro g11 ?_;clear g11;(conv=>whnf);refine And.intro g12 ?_;clear g12;(conv=>whnf);refine And.intro g13 ?_;clear g13;(conv=>whnf);refine And.intro (by kernel_rfl) ?_;(conv=>whnf);obtain ⟨g14,g9⟩:=gd_some g9;obtain ⟨g15,g9⟩:=gd_some g9;obtain ⟨g16,g9⟩:=gd_some g9;refine draw_u tOk [] 13 [] [0,0,2,0,0,24,56,126,254,510,1023,2047,4095] [] ?_;(conv=>whnf);refine And.intro g14 ?_;clear g14;(conv=>whnf);refine And.intro g15 ?_;clear g15;(conv=>whnf);refine And.intro g16 ?_;clear g16;(conv=>whnf);refine And.intro (by kernel_rfl) ?_;(conv=>whnf);obtain ⟨x17,hx17,g9⟩:=bd_some g9;refine seq_join tOk (fun s18=>⟨0,93,[(1,.d (slD encInt a1)),(2,.ref 2 0 0),(6,.osl 16 0 s7.1.length),(8,.d (.bool s18)),(9,.d (.int .i64 s7.2.2)),(10,.d (.int .i64 (s7.1.getD (((a0.Links.getD ((a1.getD s7.2.2.toNat default).toNat) default).A).toNat) default))),(11,.d (.int .i64 (s7.1.getD (((a0.Links.getD ((a1.getD s7.2.2.toNat default).toNat) default).B).toNat) default)))],[],[(16,.arr 3 1 s7.1.length (rows encInt s7.1)),(2,.box 29 [.d (slD TreeBridge.enc a0.Bridges),.d (slD TreeLink.enc a0.Links),.d (slD encInt a0.Down),.d (slD TreeSlot.enc a0.AtA),.d (slD TreeSlot.enc a0.AtB),.d (slD TreeWord.enc a0.Radio)])],[]⟩) (fun s18=>x17 = s18) ?_ ?_
          · (conv=>whnf);refine andI hx17 (fun _ hx17=>?_) (fun _ hx17=>?_)
            · (conv=>whnf);obtain rfl:=Option.some.inj hx17;exact ⟨_,rfl,leX []⟩
            · (conv=>whnf);obtain rfl:=Option.some.inj hx17;exact ⟨_,rfl,leX []⟩
          · rintro _ rfl;(conv=>whnf);obtain ⟨x23,hx23,g9⟩:=bd_some g9;refine loop_m tOk hx23 (fun s20=>⟨0,93,[(1,.d (slD encInt a1)),(2,.ref 2 0 0),(6,.osl 16 0 s20.1.length),(8,.d (.bool x17)),(9,.d (.int .i64 s7.2.2)),(10,.d (.int .i64 (s7.1.getD (((a0.Links.getD ((a1.getD s7.2.2.toNat default).toNat) default).A).toNat) default))),(11,.d (.int .i64 (s7.1.getD (((a0.Links.getD ((a1.getD s7.2.2.toNat default).toNat) default).B).toNat) default))),(12,.d (.int .i64 s20.2))],[],[(16,.arr 3 1 s20.1.length (rows encInt s20.1)),(2,.box 29 [.d (slD TreeBridge.enc a0.Bridges),.d (slD TreeLink.enc a0.Links),.d (slD encInt a0.Down),.d (slD TreeSlot.enc a0.AtA),.d (slD TreeSlot.enc a0.AtB),.d (slD TreeWord.enc a0.Radio)])],[]⟩) ?_ ?_
            · exact leX []
            · clear hx23;intro s20 y21 g22 hy21;(conv=>whnf);refine seq_in tOk ?_;(conv=>whnf);refine andI g22 (fun _ g22=>?_) (fun _ g22=>?_)
              · (conv=>whnf);refine seq_in tOk ?_;(conv=>whnf);refine gdI g22 (fun g22=>?_);(conv=>whnf);refine gdI g22 (fun g22=>?_);(conv=>whnf);refine andI g22 (fun _ g22=>?_) (fun _ g22=>?_)
                · (conv=>whnf);refine andI g22 (fun _ g22=>?_) (fun _ g22=>?_)
                  · (conv=>whnf);refine gdI g22 (fun g22=>?_);(conv=>whnf);obtain ⟨x27,hx27,hlx27,g22⟩:=bd_set g22;refine setS (enc:=encInt) hx27 ?_;(conv=>whnf);obtain rfl:=Option.some.inj g22;exact ⟨_,rfl,leX []⟩
                  · (conv=>whnf);refine gdI g22 (fun g22=>?_);(conv=>whnf);obtain ⟨x29,hx29,hlx29,g22⟩:=bd_set g22;refine setS (enc:=encInt) hx29 ?_;(conv=>whnf);obtain rfl:=Option.some.inj g22;exact ⟨_,rfl,leX []⟩
                · (conv=>whnf);obtain rfl:=Option.some.inj g22;exact ⟨_,rfl,leX []⟩
              · (conv=>whnf);obtain rfl:=Option.some.inj g22;obtain rfl:=hy21 _ rfl;obtain rfl:=Option.some.inj g9;exact ⟨_,rfl,leX []⟩
        · (conv=>whnf);obtain rfl:=Option.some.inj g9;obtain rfl:=hy8 _ rfl;obtain rfl:=Option.some.inj h;exact lfP [.s [(16,5001),(5001,16)]]
noncomputable def impl_TreeRight_1_m (a0:TreeBridge) (a1:TreeMind):Option (Bool) :=
 some (((a0.Mind.Vector.Root == a1.Vector.Root) && ((a0.Mind.Vector.Cost == a1.Vector.Cost) && ((a0.Mind.Vector.Age == a1.Vector.Age) && true))) && ((a0.Mind.Link == a1.Link) && true))
theorem impl_TreeRight_1_c {a0:TreeBridge} {a1:TreeMind} {r:Bool} (h:impl_TreeRight_1_m a0 a1 = some r):PureC Try.prog 41 [.agg [.d (.int .i64 a0.Id),.d (.bool a0.Up),.d (.int .i64 a0.Mind.Vector.Root),.d (.int .i64 a0.Mind.Vector.Cost),.d (.int .i64 a0.Mind.Vector.Age),.d (.int .i64 a0.Mind.Link)],.agg [.d (.int .i64 a1.Vector.Root),.d (.int .i64 a1.Vector.Cost),.d (.int .i64 a1.Vector.Age),.d (.int .i64 a1.Link)]] (.d (.bool r)) []:=by
  refine pureC_x tOk (fn:=Try.f41) (c:=codeOf Try.f41) rfl rfl ?_;unfold impl_TreeRight_1_m at h;(conv=>whnf);obtain rfl:=Option.some.inj h;exact lfP []
noncomputable def slices_EqualFunc_TreeBridge_TreeMind_TreeBridge_TreeMind_impl_TreeRight_1_m (a0:(List TreeBridge)) (a1:(List TreeMind)):Option (Bool) :=
(if (((a0.length:Nat):Int) != ((a1.length:Nat):Int)) = true then
 some false
else
 bd (lp (σ:=Int) (β:=(Unit ⊕ Unit)) (fun s1 =>
(if (decide (s1<((a0.length:Nat):Int))) = true then
 gd ((0:Int)≤s1∧s1<((a0.length:Nat):Int)) <|
 gd ((0:Int)≤s1∧s1<((a1.length:Nat):Int)) <|
 bd (impl_TreeRight_1_m ({ (a0.getD s1.toNat default) with Mind:=(⟨(((a0.getD s1.toNat default).Mind).Vector),((a0.getD s1.toNat default).Mind).Link⟩:TreeMind) }) (⟨((a1.getD s1.toNat default).Vector),(a1.getD s1.toNat default).Link⟩:TreeMind)) fun x7 =>
(if (!x7) = true then
 some (.inr (.inl ()))
else
 some (.inl (IntKind.i64.wrap (s1+1))))
else
 some (.inr (.inr ())))) 0) fun x4 =>
(match x4 with
| .inl d8 =>
 some false
| .inr d9 =>
 some true))
theorem slices_EqualFunc_TreeBridge_TreeMind_TreeBridge_TreeMind_impl_TreeRight_1_c {a0:(List TreeBridge)} {a1:(List TreeMind)} {r:Bool} (h:slices_EqualFunc_TreeBridge_TreeMind_TreeBridge_TreeMind_impl_TreeRight_1_m a0 a1 = some r):PureC Try.prog 40 [.d (slD TreeBridge.enc a0),.d (slD TreeMind.enc a1),.fn 41 []] (.d (.bool r)) []:=by
  refine pureC_x tOk (fn:=Try.f40) (c:=codeOf Try.f40) rfl rfl ?_;unfold slices_EqualFunc_TreeBridge_TreeMind_TreeBridge_TreeMind_impl_TreeRight_1_m at h;(conv=>whnf);refine seq_in tOk ?_;(conv=>whnf);refine andI h (fun _ h=>?_) (fun _ h=>?_)
  · (conv=>whnf);obtain rfl:=Option.some.inj h;exact lfP []
  · (conv=>whnf);refine seq_in tOk ?_;(conv=>whnf);obtain ⟨x4,hx4,h⟩:=bd_some h;refine loop_m tOk hx4 (fun s1=>⟨0,32,[(1,.d (slD TreeMind.enc a1)),(2,.fn 41 []),(15,.d (slD TreeBridge.enc a0)),(16,.d (.int .i64 ((a0.length:Nat):Int))),(17,.d (.int .i64 s1))],[],[],[]⟩) ?_ ?_
    · exact leX []
    · clear hx4;intro s1 y2 g3 hy2;(conv=>whnf);refine seq_in tOk ?_;(conv=>whnf);refine andI g3 (fun _ g3=>?_) (fun _ g3=>?_)
      · (conv=>whnf);refine seq_in tOk ?_;(conv=>whnf);refine gdI g3 (fun g3=>?_);(conv=>whnf);refine gdI g3 (fun g3=>?_);(conv=>whnf);obtain ⟨x7,hx7,g3⟩:=bd_some g3;refine cC 0 (impl_TreeRight_1_c hx7) ?_;clear hx7;(conv=>whnf);refine andI g3 (fun _ g3=>?_) (fun _ g3=>?_)
        · (conv=>whnf);obtain rfl:=Option.some.inj g3;obtain rfl:=hy2 _ rfl;obtain rfl:=Option.some.inj h;exact lfP []
        · (conv=>whnf);obtain rfl:=Option.some.inj g3;exact ⟨_,rfl,leX []⟩
      · (conv=>whnf);obtain rfl:=Option.some.inj g3;obtain rfl:=hy2 _ rfl;obtain rfl:=Option.some.inj h;exact lfP []
noncomputable def impl_TreeRight_m (a0:TreeWorld):Option (Bool) :=
 bd (impl_TreeWorldOk_m a0) fun x1 =>
(if (!x1) = true then
 some false
else
 bd (impl_TreeWorld_bests_m a0) fun x2 =>
 bd (slices_EqualFunc_TreeBridge_TreeMind_TreeBridge_TreeMind_impl_TreeRight_1_m a0.Bridges x2) fun x3 =>
 some x3)
theorem impl_TreeRight_c {a0:TreeWorld} {r:Bool} (h:impl_TreeRight_m a0 = some r):PureC Try.prog 16 [.agg [.d (slD TreeBridge.enc a0.Bridges),.d (slD TreeLink.enc a0.Links),.d (slD encInt a0.Down),.d (slD TreeSlot.enc a0.AtA),.d (slD TreeSlot.enc a0.AtB),.d (slD TreeWord.enc a0.Radio)]] (.d (.bool r)) []:=by
  refine pureC_x tOk (fn:=Try.f16) (c:=codeOf Try.f16) rfl rfl ?_;unfold impl_TreeRight_m at h;(conv=>whnf);refine seq_in tOk ?_;(conv=>whnf);obtain ⟨x1,hx1,h⟩:=bd_some h;refine cC 0 (impl_TreeWorldOk_c hx1) ?_;clear hx1;(conv=>whnf);refine andI h (fun _ h=>?_) (fun _ h=>?_)
  · (conv=>whnf);obtain rfl:=Option.some.inj h;exact lfP []
  · (conv=>whnf);obtain ⟨x2,hx2,h⟩:=bd_some h;obtain ⟨x3,hx3,h⟩:=bd_some h;refine draw_u tOk [.u 2 1000 (.osl 5001 0 x2.length) [⟨5001,41,4,x2.length,rows TreeMind.enc x2⟩],.u 3 0 (.d (.bool x3)) []] 5 [] [0,1,0,7,15] [] ?_;(conv=>whnf);refine And.intro (callD_any (impl_TreeWorld_bests_c hx2) (by kernel_rfl)) ?_;(conv=>whnf);refine And.intro (callD_any (slices_EqualFunc_TreeBridge_TreeMind_TreeBridge_TreeMind_impl_TreeRight_1_c hx3) (by kernel_rfl)) ?_;(conv=>whnf);refine And.intro (by kernel_rfl) ?_;(conv=>whnf);obtain rfl:=Option.some.inj h;exact lfP []
noncomputable def spec_TreeRight_m (a0:TreeWorld):Option (Bool) :=
 bd (spec_TreeWorldOk_m a0) fun x1 =>
(if (!x1) = true then
 some false
else
 bd (spec_TreeBest_m a0) fun x2 =>
 bd (lp (σ:=Int) (β:=(Unit ⊕ Unit)) (fun s3 =>
(if (decide (s3<((x2.length:Nat):Int))) = true then
 gd ((0:Int)≤s3∧s3<((a0.Bridges.length:Nat):Int)) <|
 gd ((0:Int)≤s3∧s3<((x2.length:Nat):Int)) <|
(if (!(((((((a0.Bridges.getD s3.toNat default).Mind).Vector).Root) == (((x2.getD s3.toNat default).Vector).Root)) && ((((((a0.Bridges.getD s3.toNat default).Mind).Vector).Cost) == (((x2.getD s3.toNat default).Vector).Cost)) && ((((((a0.Bridges.getD s3.toNat default).Mind).Vector).Age) == (((x2.getD s3.toNat default).Vector).Age)) && true))) && (((((a0.Bridges.getD s3.toNat default).Mind).Link) == ((x2.getD s3.toNat default).Link)) && true))) = true then
 some (.inr (.inl ()))
else
 some (.inl (IntKind.i64.wrap (s3+1))))
else
 some (.inr (.inr ())))) 0) fun x6 =>
(match x6 with
| .inl d9 =>
 some false
| .inr d10 =>
 some true))
theorem spec_TreeRight_c {a0:TreeWorld} {r:Bool} (h:spec_TreeRight_m a0 = some r):PureC Try.prog 17 [.agg [.d (slD TreeBridge.enc a0.Bridges),.d (slD TreeLink.enc a0.Links),.d (slD encInt a0.Down),.d (slD TreeSlot.enc a0.AtA),.d (slD TreeSlot.enc a0.AtB),.d (slD TreeWord.enc a0.Radio)]] (.d (.bool r)) []:=by
  refine pureC_x tOk (fn:=Try.f17) (c:=codeOf Try.f17) rfl rfl ?_;unfold spec_TreeRight_m at h;(conv=>whnf);refine seq_in tOk ?_;(conv=>whnf);obtain ⟨x1,hx1,h⟩:=bd_some h;refine cC 0 (spec_TreeWorldOk_c hx1) ?_;clear hx1;(conv=>whnf);refine andI h (fun _ h=>?_) (fun _ h=>?_)
  · (conv=>whnf);obtain rfl:=Option.some.inj h;exact lfP []
  · (conv=>whnf);obtain ⟨x2,hx2,h⟩:=bd_some h;refine cC 1000 (spec_TreeBest_c hx2) ?_;clear hx2;(conv=>whnf);refine seq_in tOk ?_;(conv=>whnf);obtain ⟨x6,hx6,h⟩:=bd_some h;refine loop_m tOk hx6 (fun s3=>⟨0,27,[(1,.ref 1 0 0),(3,.osl 6001 0 x2.length),(4,.d (.int .i64 s3))],[],[(6001,.arr 41 4 x2.length (rows TreeMind.enc x2)),(1,.box 29 [.d (slD TreeBridge.enc a0.Bridges),.d (slD TreeLink.enc a0.Links),.d (slD encInt a0.Down),.d (slD TreeSlot.enc a0.AtA),.d (slD TreeSlot.enc a0.AtB),.d (slD TreeWord.enc a0.Radio)])],[]⟩) ?_ ?_
    · exact leX []
    · clear hx6;intro s3 y4 g5 hy4;(conv=>whnf);refine seq_in tOk ?_;(conv=>whnf);refine andI g5 (fun _ g5=>?_) (fun _ g5=>?_)
      · (conv=>whnf);refine seq_in tOk ?_;(conv=>whnf);obtain ⟨g7,g5⟩:=gd_some g5;obtain ⟨g8,g5⟩:=gd_some g5;refine draw_u tOk [] 11 [] [0,1,0,7,15,31,0,0,192,448,1023] [] ?_;(conv=>whnf);refine And.intro g7 ?_;clear g7;(conv=>whnf);refine And.intro g8 ?_;clear g8;(conv=>whnf);refine And.intro (by kernel_rfl) ?_;(conv=>whnf);refine andI g5 (fun _ g5=>?_) (fun _ g5=>?_)
        · (conv=>whnf);obtain rfl:=Option.some.inj g5;obtain rfl:=hy4 _ rfl;obtain rfl:=Option.some.inj h;exact lfP []
        · (conv=>whnf);obtain rfl:=Option.some.inj g5;exact ⟨_,rfl,leX []⟩
      · (conv=>whnf);obtain rfl:=Option.some.inj g5;obtain rfl:=hy4 _ rfl;obtain rfl:=Option.some.inj h;exact lfP []
end Go.Proofs.Ythgcnnkjojemdaa
