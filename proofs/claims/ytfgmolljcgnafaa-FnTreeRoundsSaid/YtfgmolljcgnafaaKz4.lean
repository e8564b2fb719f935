/-
  What some of the program's functions compute: their models, and that the functions compute these; no condition.
-/
import Derived.Test.YtfgmolljcgnafaaTyz
import Derived.Test.YtfgmolljcgnafaaTbz
import Derived.Test.YtfgmolljcgnafaaAbz7
import Derived.Test.YtfgmolljcgnafaaKz3
set_option linter.all false
namespace Go.Proofs.Ytfgmolljcgnafaa
open Go Go.Ab
set_option maxRecDepth 100000
set_option maxHeartbeats 4000000
noncomputable def impl_TreeWorldOk_m (a0:TreeWorld):Option (Bool) :=
 bd (impl_TreeLinksOk_m ((a0.Bridges.length:Nat):Int) a0.Links) fun x1 =>
 bd (gcall ((!x1) = false) (impl_TreeWorld_bridgesOk_m a0)) fun x2 =>
(if (((((!x1) || (!x2)) || (((a0.AtA.length:Nat):Int) != ((a0.Links.length:Nat):Int))) || (((a0.AtB.length:Nat):Int) != ((a0.Links.length:Nat):Int))) || (decide (((a0.Radio.length:Nat):Int) > 12))) = true then
 some false
else
 bd (lp (σ:=Int) (β:=(Unit ⊕ Unit)) (fun s3 =>
(if (decide (s3<((a0.Down.length:Nat):Int))) = true then
 gd ((0:Int)≤s3∧s3<((a0.Down.length:Nat):Int)) <|
 bd (impl_TreeWorld_isLink_m a0 (a0.Down.getD s3.toNat default)) fun x8 =>
 gd ((decide (s3 > 0)) = true → ((!x8) = false → ((0:Int)≤IntKind.i64.wrap (s3 - 1)∧IntKind.i64.wrap (s3 - 1)<((a0.Down.length:Nat):Int)))) <|
(if ((!x8) || ((decide (s3 > 0)) && (decide ((a0.Down.getD ((IntKind.i64.wrap (s3 - 1)).toNat) default) ≥ (a0.Down.getD s3.toNat default))))) = true then
 some (.inr (.inl ()))
else
 some (.inl (IntKind.i64.wrap (s3+1))))
else
 some (.inr (.inr ())))) 0) fun x6 =>
(match x6 with
| .inl d10 =>
 some false
| .inr d11 =>
 bd (lp (σ:=Int) (β:=(Unit ⊕ Unit)) (fun s12 =>
(if (decide (s12<((a0.Links.length:Nat):Int))) = true then
 bd (impl_TreeWorld_slotOk_m a0 s12 0) fun x16 =>
 bd (gcall ((!x16) = false) (impl_TreeWorld_slotOk_m a0 s12 1)) fun x17 =>
(if ((!x16) || (!x17)) = true then
 some (.inr (.inl ()))
else
 some (.inl (IntKind.i64.wrap (s12+1))))
else
 some (.inr (.inr ())))) 0) fun x15 =>
(match x15 with
| .inl d18 =>
 some false
| .inr d19 =>
 bd (slices_ContainsFunc_TreeWord_TreeWord_impl_TreeWorldOk_1_m a0.Radio a0) fun x20 =>
 some (!x20))))
theorem impl_TreeWorldOk_c {a0:TreeWorld} {r:Bool} (h:impl_TreeWorldOk_m a0 = some r):PureC Try.prog 22 [.agg [.d (slD TreeBridge.enc a0.Bridges),.d (slD TreeLink.enc a0.Links),.d (slD encInt a0.Down),.d (slD TreeSlot.enc a0.AtA),.d (slD TreeSlot.enc a0.AtB),.d (slD TreeWord.enc a0.Radio)]] (.d (.bool r)) []:=by
  refine pureC_x tOk (fn:=Try.f22) (c:=codeOf Try.f22) rfl rfl ?_;unfold impl_TreeWorldOk_m at h;(conv=>whnf);refine seq_in tOk ?_;(conv=>whnf);obtain ⟨x1,hx1,h⟩:=bd_some h;refine cC 0 (impl_TreeLinksOk_c hx1) ?_;clear hx1;(conv=>whnf);obtain ⟨x2,hx2,h⟩:=bd_some h;refine callG_m rfl rfl rfl rfl rfl rfl (by intro c0; exact impl_TreeWorld_bridgesOk_c (gcall_some hx2 c0)) ?_;(conv=>whnf);refine andI h (fun _ h=>?_) (fun _ h=>?_)
  · (conv=>whnf);obtain rfl:=Option.some.inj h;exact lfP []
  · (conv=>whnf);refine seq_in tOk ?_;(conv=>whnf);obtain ⟨x6,hx6,h⟩:=bd_some h;refine loop_m tOk hx6 (fun s3=>⟨0,87,[(1,.ref 1 0 0),(42,.d (slD encInt a0.Down)),(43,.d (.int .i64 ((a0.Down.length:Nat):Int))),(44,.d (.int .i64 s3))],[],[(1,.box 29 [.d (slD TreeBridge.enc a0.Bridges),.d (slD TreeLink.enc a0.Links),.d (slD encInt a0.Down),.d (slD TreeSlot.enc a0.AtA),.d (slD TreeSlot.enc a0.AtB),.d (slD TreeWord.enc a0.Radio)])],[]⟩) ?_ ?_
    · exact leX []
    · clear hx6;intro s3 y4 g5 hy4;(conv=>whnf);refine seq_in tOk ?_;(conv=>whnf);refine andI g5 (fun _ g5=>?_) (fun _ g5=>?_)
      · (conv=>whnf);refine seq_in tOk ?_;(conv=>whnf);refine gdI g5 (fun g5=>?_);(conv=>whnf);obtain ⟨x8,hx8,g5⟩:=bd_some g5;refine cC 0 (impl_TreeWorld_isLink_c hx8) ?_;clear hx8;(conv=>whnf);refine gdI g5 (fun g5=>?_);(conv=>whnf);refine andI g5 (fun _ g5=>?_) (fun _ g5=>?_)
        · (conv=>whnf);obtain rfl:=Option.some.inj g5;obtain rfl:=hy4 _ rfl;obtain rfl:=Option.some.inj h;exact lfP []
        · (conv=>whnf);obtain rfl:=Option.some.inj g5;exact ⟨_,rfl,leX []⟩
      · (conv=>whnf);obtain rfl:=Option.some.inj g5;obtain rfl:=hy4 _ rfl;refine seq_in tOk ?_;(conv=>whnf);obtain ⟨x15,hx15,h⟩:=bd_some h;refine loop_m tOk hx15 (fun s12=>⟨0,87,[(1,.ref 1 0 0),(69,.d (.int .i64 ((a0.Links.length:Nat):Int))),(70,.d (.int .i64 s12))],[],[(1,.box 29 [.d (slD TreeBridge.enc a0.Bridges),.d (slD TreeLink.enc a0.Links),.d (slD encInt a0.Down),.d (slD TreeSlot.enc a0.AtA),.d (slD TreeSlot.enc a0.AtB),.d (slD TreeWord.enc a0.Radio)])],[]⟩) ?_ ?_
        · exact leX []
        · clear hx15;intro s12 y13 g14 hy13;(conv=>whnf);refine seq_in tOk ?_;(conv=>whnf);refine andI g14 (fun _ g14=>?_) (fun _ g14=>?_)
          · (conv=>whnf);refine seq_in tOk ?_;(conv=>whnf);obtain ⟨x16,hx16,g14⟩:=bd_some g14;refine cC 0 (impl_TreeWorld_slotOk_c hx16) ?_;clear hx16;(conv=>whnf);obtain ⟨x17,hx17,g14⟩:=bd_some g14;refine callG_m rfl rfl rfl rfl rfl rfl (by intro c0; exact impl_TreeWorld_slotOk_c (gcall_some hx17 c0)) ?_;(conv=>whnf);refine andI g14 (fun _ g14=>?_) (fun _ g14=>?_)
            · (conv=>whnf);obtain rfl:=Option.some.inj g14;obtain rfl:=hy13 _ rfl;obtain rfl:=Option.some.inj h;exact lfP []
            · (conv=>whnf);obtain rfl:=Option.some.inj g14;exact ⟨_,rfl,leX []⟩
          · (conv=>whnf);obtain rfl:=Option.some.inj g14;obtain rfl:=hy13 _ rfl;obtain ⟨x20,hx20,h⟩:=bd_some h;refine cC 0 (slices_ContainsFunc_TreeWord_TreeWord_impl_TreeWorldOk_1_c hx20) ?_;clear hx20;(conv=>whnf);obtain rfl:=Option.some.inj h;exact lfP []
noncomputable def impl_clone_TreeBridge_m (a0:(List TreeBridge)):Option ((List TreeBridge)) :=
 gd ((0:Int)≤0∧0≤((a0.length:Nat):Int)∧((a0.length:Nat):Int) * 48≤140737488355328∧((a0.length:Nat):Int)≤140737488355328) <|
 gd ((((List.replicate (0:Int).toNat (default:TreeBridge)).length)+(a0.length)) * (48+1)≤70368744177664) <|
 some ((List.replicate (0:Int).toNat (default:TreeBridge)) ++ a0)
theorem impl_clone_TreeBridge_c {a0:(List TreeBridge)} {r:(List TreeBridge)} (h:impl_clone_TreeBridge_m a0 = some r):PureC Try.prog 86 [.d (slD TreeBridge.enc a0)] (.osl 5001 0 r.length) [⟨5001,43,6,r.length,rows TreeBridge.enc r⟩]:=by
  refine pureC_x tOk (fn:=Try.f86) (c:=codeOf Try.f86) rfl rfl ?_;unfold impl_clone_TreeBridge_m at h;(conv=>whnf);obtain ⟨g2,h⟩:=gd_some h;refine And.intro g2 ?_;clear g2;refine ⟨(List.replicate (0:Int).toNat (default:TreeBridge)).length,rows TreeBridge.enc (List.replicate (0:Int).toNat (default:TreeBridge)),by simp,make_rows rfl,?_⟩;(conv=>whnf);refine gdI h (fun h=>?_);refine appS (enc:=TreeBridge.enc) (xs:=(List.replicate (0:Int).toNat (default:TreeBridge))) (ys:=a0) ?_;(conv=>whnf);obtain rfl:=Option.some.inj h;exact lfP [.s [(5,5001),(5001,5)]]
noncomputable def impl_clone_TreeLink_m (a0:(List TreeLink)):Option ((List TreeLink)) :=
 gd ((0:Int)≤0∧0≤((a0.length:Nat):Int)∧((a0.length:Nat):Int) * 24≤140737488355328∧((a0.length:Nat):Int)≤140737488355328) <|
 gd ((((List.replicate (0:Int).toNat (default:TreeLink)).length)+(a0.length)) * (24+1)≤70368744177664) <|
 some ((List.replicate (0:Int).toNat (default:TreeLink)) ++ a0)
theorem impl_clone_TreeLink_c {a0:(List TreeLink)} {r:(List TreeLink)} (h:impl_clone_TreeLink_m a0 = some r):PureC Try.prog 87 [.d (slD TreeLink.enc a0)] (.osl 5001 0 r.length) [⟨5001,46,3,r.length,rows TreeLink.enc r⟩]:=by
  refine pureC_x tOk (fn:=Try.f87) (c:=codeOf Try.f87) rfl rfl ?_;unfold impl_clone_TreeLink_m at h;(conv=>whnf);obtain ⟨g2,h⟩:=gd_some h;refine And.intro g2 ?_;clear g2;refine ⟨(List.replicate (0:Int).toNat (default:TreeLink)).length,rows TreeLink.enc (List.replicate (0:Int).toNat (default:TreeLink)),by simp,make_rows rfl,?_⟩;(conv=>whnf);refine gdI h (fun h=>?_);refine appS (enc:=TreeLink.enc) (xs:=(List.replicate (0:Int).toNat (default:TreeLink))) (ys:=a0) ?_;(conv=>whnf);obtain rfl:=Option.some.inj h;exact lfP [.s [(5,5001),(5001,5)]]
noncomputable def impl_clone_int_m (a0:(List Int)):Option ((List Int)) :=
 gd ((0:Int)≤0∧0≤((a0.length:Nat):Int)∧((a0.length:Nat):Int) * 8≤140737488355328∧((a0.length:Nat):Int)≤140737488355328) <|
 gd ((((List.replicate (0:Int).toNat (default:Int)).length)+(a0.length)) * (8+1)≤70368744177664) <|
 some ((List.replicate (0:Int).toNat (default:Int)) ++ a0)
theorem impl_clone_int_c {a0:(List Int)} {r:(List Int)} (h:impl_clone_int_m a0 = some r):PureC Try.prog 88 [.d (slD encInt a0)] (.osl 5001 0 r.length) [⟨5001,3,1,r.length,rows encInt r⟩]:=by
  refine pureC_x tOk (fn:=Try.f88) (c:=codeOf Try.f88) rfl rfl ?_;unfold impl_clone_int_m at h;(conv=>whnf);obtain ⟨g2,h⟩:=gd_some h;refine And.intro g2 ?_;clear g2;refine ⟨(List.replicate (0:Int).toNat (default:Int)).length,rows encInt (List.replicate (0:Int).toNat (default:Int)),by simp,make_rows rfl,?_⟩;(conv=>whnf);refine gdI h (fun h=>?_);refine appS (enc:=encInt) (xs:=(List.replicate (0:Int).toNat (default:Int))) (ys:=a0) ?_;(conv=>whnf);obtain rfl:=Option.some.inj h;exact lfP [.s [(5,5001),(5001,5)]]
noncomputable def impl_clone_TreeSlot_m (a0:(List TreeSlot)):Option ((List TreeSlot)) :=
 gd ((0:Int)≤0∧0≤((a0.length:Nat):Int)∧((a0.length:Nat):Int) * 32≤140737488355328∧((a0.length:Nat):Int)≤140737488355328) <|
 gd ((((List.replicate (0:Int).toNat (default:TreeSlot)).length)+(a0.length)) * (32+1)≤70368744177664) <|
 some ((List.replicate (0:Int).toNat (default:TreeSlot)) ++ a0)
theorem impl_clone_TreeSlot_c {a0:(List TreeSlot)} {r:(List TreeSlot)} (h:impl_clone_TreeSlot_m a0 = some r):PureC Try.prog 89 [.d (slD TreeSlot.enc a0)] (.osl 5001 0 r.length) [⟨5001,107,4,r.length,rows TreeSlot.enc r⟩]:=by
  refine pureC_x tOk (fn:=Try.f89) (c:=codeOf Try.f89) rfl rfl ?_;unfold impl_clone_TreeSlot_m at h;(conv=>whnf);obtain ⟨g2,h⟩:=gd_some h;refine And.intro g2 ?_;clear g2;refine ⟨(List.replicate (0:Int).toNat (default:TreeSlot)).length,rows TreeSlot.enc (List.replicate (0:Int).toNat (default:TreeSlot)),by simp,make_rows rfl,?_⟩;(conv=>whnf);refine gdI h (fun h=>?_);refine appS (enc:=TreeSlot.enc) (xs:=(List.replicate (0:Int).toNat (default:TreeSlot))) (ys:=a0) ?_;(conv=>whnf);obtain rfl:=Option.some.inj h;exact lfP [.s [(5,5001),(5001,5)]]
noncomputable def impl_clone_TreeWord_m (a0:(List TreeWord)):Option ((List TreeWord)) :=
 gd ((0:Int)≤0∧0≤((a0.length:Nat):Int)∧((a0.length:Nat):Int) * 40≤140737488355328∧((a0.length:Nat):Int)≤140737488355328) <|
 gd ((((List.replicate (0:Int).toNat (default:TreeWord)).length)+(a0.length)) * (40+1)≤70368744177664) <|
 some ((List.replicate (0:Int).toNat (default:TreeWord)) ++ a0)
theorem impl_clone_TreeWord_c {a0:(List TreeWord)} {r:(List TreeWord)} (h:impl_clone_TreeWord_m a0 = some r):PureC Try.prog 90 [.d (slD TreeWord.enc a0)] (.osl 5001 0 r.length) [⟨5001,76,5,r.length,rows TreeWord.enc r⟩]:=by
  refine pureC_x tOk (fn:=Try.f90) (c:=codeOf Try.f90) rfl rfl ?_;unfold impl_clone_TreeWord_m at h;(conv=>whnf);obtain ⟨g2,h⟩:=gd_some h;refine And.intro g2 ?_;clear g2;refine ⟨(List.replicate (0:Int).toNat (default:TreeWord)).length,rows TreeWord.enc (List.replicate (0:Int).toNat (default:TreeWord)),by simp,make_rows rfl,?_⟩;(conv=>whnf);refine gdI h (fun h=>?_);refine appS (enc:=TreeWord.enc) (xs:=(List.replicate (0:Int).toNat (default:TreeWord))) (ys:=a0) ?_;(conv=>whnf);obtain rfl:=Option.some.inj h;exact lfP [.s [(5,5001),(5001,5)]]
noncomputable def impl_copyTree_m (a0:TreeWorld):Option (TreeWorld) :=
 bd (impl_clone_TreeBridge_m a0.Bridges) fun x1 =>
 bd (impl_clone_TreeLink_m a0.Links) fun x2 =>
 bd (impl_clone_int_m a0.Down) fun x3 =>
 bd (impl_clone_TreeSlot_m a0.AtA) fun x4 =>
 bd (impl_clone_TreeSlot_m a0.AtB) fun x5 =>
 bd (impl_clone_TreeWord_m a0.Radio) fun x6 =>
 some (⟨x1,x2,x3,x4,x5,x6⟩:TreeWorld)
theorem impl_copyTree_c {a0:TreeWorld} {r:TreeWorld} (h:impl_copyTree_m a0 = some r):PureC Try.prog 45 [.agg [.d (slD TreeBridge.enc a0.Bridges),.d (slD TreeLink.enc a0.Links),.d (slD encInt a0.Down),.d (slD TreeSlot.enc a0.AtA),.d (slD TreeSlot.enc a0.AtB),.d (slD TreeWord.enc a0.Radio)]] (.agg [.osl 5001 0 r.Bridges.length,.osl 5002 0 r.Links.length,.osl 5003 0 r.Down.length,.osl 5004 0 r.AtA.length,.osl 5005 0 r.AtB.length,.osl 5006 0 r.Radio.length]) [⟨5001,43,6,r.Bridges.length,rows TreeBridge.enc r.Bridges⟩,⟨5002,46,3,r.Links.length,rows TreeLink.enc r.Links⟩,⟨5003,3,1,r.Down.length,rows encInt r.Down⟩,⟨5004,107,4,r.AtA.length,rows TreeSlot.enc r.AtA⟩,⟨5005,107,4,r.AtB.length,rows TreeSlot.enc r.AtB⟩,⟨5006,76,5,r.Radio.length,rows TreeWord.enc r.Radio⟩]:=by
  refine pureC_x tOk (fn:=Try.f45) (c:=codeOf Try.f45) rfl rfl ?_;unfold impl_copyTree_m at h;(conv=>whnf);obtain ⟨x1,hx1,h⟩:=bd_some h;obtain ⟨x2,hx2,h⟩:=bd_some h;obtain ⟨x3,hx3,h⟩:=bd_some h;obtain ⟨x4,hx4,h⟩:=bd_some h;obtain ⟨x5,hx5,h⟩:=bd_some h;obtain ⟨x6,hx6,h⟩:=bd_some h;refine draw_u tOk [.u 2 1000 (.osl 5001 0 x1.length) [⟨5001,43,6,x1.length,rows TreeBridge.enc x1⟩],.u 5 2000 (.osl 5001 0 x2.length) [⟨5001,46,3,x2.length,rows TreeLink.enc x2⟩],.u 8 3000 (.osl 5001 0 x3.length) [⟨5001,3,1,x3.length,rows encInt x3⟩],.u 11 4000 (.osl 5001 0 x4.length) [⟨5001,107,4,x4.length,rows TreeSlot.enc x4⟩],.u 14 5000 (.osl 5001 0 x5.length) [⟨5001,107,4,x5.length,rows TreeSlot.enc x5⟩],.u 17 6000 (.osl 5001 0 x6.length) [⟨5001,76,5,x6.length,rows TreeWord.enc x6⟩]] 19 [] [0,1,3,0,8,31,0,64,255,0,512,2047,0,4096,16383,0,32768,131071,262143] [524287] ?_;(conv=>whnf);refine And.intro (callD_any (impl_clone_TreeBridge_c hx1) (by kernel_rfl)) ?_;(conv=>whnf);refine And.intro (callD_any (impl_clone_TreeLink_c hx2) (by kernel_rfl)) ?_;(conv=>whnf);refine And.intro (callD_any (impl_clone_int_c hx3) (by kernel_rfl)) ?_;(conv=>whnf);refine And.intro (callD_any (impl_clone_TreeSlot_c hx4) (by kernel_rfl)) ?_;(conv=>whnf);refine And.intro (callD_any (impl_clone_TreeSlot_c hx5) (by kernel_rfl)) ?_;(conv=>whnf);refine And.intro (callD_any (impl_clone_TreeWord_c hx6) (by kernel_rfl)) ?_;(conv=>whnf);refine And.intro (by kernel_rfl) ?_;(conv=>whnf);obtain rfl:=Option.some.inj h;exact lfP [.s [(5001,6001),(5002,7001),(5003,8001),(5004,9001),(5005,10001),(5006,11001),(6001,5001),(7001,5002),(8001,5003),(9001,5004),(10001,5005),(11001,5006)]]
noncomputable def slices_Delete_TreeWord_TreeWord_m (a0:(List TreeWord)) (a1:Int) (a2:Int):Option ((List TreeWord)) :=
 gd (0≤a1∧a1≤a2∧a2≤a0.length) <|
 some (delL a0 a1.toNat a2.toNat)
theorem slices_Delete_TreeWord_TreeWord_c {a0:(List TreeWord)} {a1:Int} {a2:Int} {r:(List TreeWord)} (h:slices_Delete_TreeWord_TreeWord_m a0 a1 a2 = some r):EffC Try.prog 92 [.osl 9000 0 a0.length,.d (.int .i64 a1),.d (.int .i64 a2)] [(9000,.arr 76 5 a0.length (rows TreeWord.enc a0))] (.osl 5001 0 r.length) [(5001,.arr 76 5 r.length (rows TreeWord.enc r))]:=by
  unfold slices_Delete_TreeWord_TreeWord_m at h;have L:LDel Try.prog ⟨fun x=>match x with | 45=>92 | _=>0,fun x=>match x with | 0=>0 | 3=>3 | 4=>4 | 22=>27 | 23=>76 | _=>0,fun x=>x⟩ 5 (.agg #[.int .i64 0,.int .i64 0,.int .i64 0,.int .i64 0,.int .i64 0]):=⟨by kernel_rfl,⟨Try.f92.name,by kernel_rfl,by kernel_rfl⟩,by kernel_rfl,fun w=>by kernel_rfl,fun w=>by kernel_rfl,fun w=>by kernel_rfl,by kernel_rfl,fun w=>by kernel_rfl,fun w=>by kernel_rfl,fun w=>by kernel_rfl,by kernel_rfl,fun w=>by kernel_rfl,fun w=>by kernel_rfl,fun w=>by kernel_rfl,by kernel_rfl,fun w=>by kernel_rfl,fun w=>by kernel_rfl,fun w=>by kernel_rfl,⟨_,rfl,rfl⟩,fun w=>by kernel_rfl,fun w=>by kernel_rfl,by kernel_rfl,fun u hu=>List.all_eq_true.1 (by kernel_rfl:(List.all (Value.cells (.agg #[.int .i64 0,.int .i64 0,.int .i64 0,.int .i64 0,.int .i64 0])).toList Value.oneCell') = true) u hu⟩;obtain ⟨g,h⟩:=gd_some h;obtain rfl:=Option.some.inj h;have k:=effC_del (t:=76) (enc:=TreeWord.enc) L (canOf (fn:=Try.f92) (c:=codeOf Try.f92) rfl rfl (by kernel_rfl)) (fun _=>rfl) (xs:=a0) (i:=a1.toNat) (j:=a2.toNat) (by omega) (by omega);rw [show ((a1.toNat:Nat):Int) = a1 by omega,show ((a2.toNat:Nat):Int) = a2 by omega] at k;exact k
noncomputable def impl_selfMind_m (a0:Int):Option (TreeMind) :=
 some (⟨(⟨a0,0,0⟩:TreeVector),-1⟩:TreeMind)
theorem impl_selfMind_c {a0:Int} {r:TreeMind} (h:impl_selfMind_m a0 = some r):PureC Try.prog 95 [.d (.int .i64 a0)] (.agg [.d (.int .i64 r.Vector.Root),.d (.int .i64 r.Vector.Cost),.d (.int .i64 r.Vector.Age),.d (.int .i64 r.Link)]) []:=by
  refine pureC_x tOk (fn:=Try.f95) (c:=codeOf Try.f95) rfl rfl ?_;unfold impl_selfMind_m at h;(conv=>whnf);obtain rfl:=Option.some.inj h;exact lfP []
noncomputable def impl_TreeVector_compare_m (a0:TreeVector) (a1:TreeVector):Option (Int) :=
(if (a0.Root != a1.Root) = true then
 some (IntKind.i64.wrap (a0.Root - a1.Root))
else
 some (IntKind.i64.wrap (a0.Cost - a1.Cost)))
theorem impl_TreeVector_compare_c {a0:TreeVector} {a1:TreeVector} {r:Int} (h:impl_TreeVector_compare_m a0 a1 = some r):PureC Try.prog 136 [.agg [.d (.int .i64 a0.Root),.d (.int .i64 a0.Cost),.d (.int .i64 a0.Age)],.agg [.d (.int .i64 a1.Root),.d (.int .i64 a1.Cost),.d (.int .i64 a1.Age)]] (.d (.int .i64 r)) []:=by
  refine pureC_x tOk (fn:=Try.f136) (c:=codeOf Try.f136) rfl rfl ?_;unfold impl_TreeVector_compare_m at h;(conv=>whnf);refine seq_in tOk ?_;(conv=>whnf);refine andI h (fun _ h=>?_) (fun _ h=>?_)
  · (conv=>whnf);obtain rfl:=Option.some.inj h;exact lfP []
  · (conv=>whnf);obtain rfl:=Option.some.inj h;exact lfP []
noncomputable def impl_TreeWorld_think_m (a0:TreeWorld) (a1:Int):Option (TreeMind) :=
 gd ((0:Int)≤a1∧a1<((a0.Bridges.length:Nat):Int)) <|
 bd (impl_selfMind_m ((a0.Bridges.getD a1.toNat default).Id)) fun x2 =>
 bd (lp (σ:=Int × Int × Int × Int × Int × Int) (β:=(Int × Int × Int × Int)) (fun s3 =>
(if (decide (s3.2.2.2.2.1<((a0.Links.length:Nat):Int))) = true then
 gd ((0:Int)≤s3.2.2.2.2.1∧s3.2.2.2.2.1<((a0.Links.length:Nat):Int)) <|
 bd (lp (σ:=Int × Int × Int × Int × Int × Int) (β:=(Int × Int × Int × Int × Int)) (fun s8 =>
(if (decide (s8.2.2.2.2.1<2)) = true then
 bd (impl_TreeWorld_slot_m a0 s3.2.2.2.2.1 s8.2.2.2.2.1) fun x12 =>
 bd (impl_TreeWorld_bridgeAt_m a0 s3.2.2.2.2.1 s8.2.2.2.2.1) fun x13 =>
 bd (gcall ((x13 != a1) = false) (impl_TreeVector_nothing_m x12.Vector)) fun x14 =>
(if ((((x13 != a1) || x14) || (decide (x12.Vector.Age ≥ 10))) || (decide ((IntKind.i64.wrap (x12.Vector.Cost+((a0.Links.getD s3.2.2.2.2.1.toNat default).Cost))) > 1000))) = true then
 some (.inl (s8.1,s8.2.1,s8.2.2.1,s8.2.2.2.1,IntKind.i64.wrap (s8.2.2.2.2.1+1),s8.2.2.2.2.2))
else
 bd (impl_TreeWorld_bridgeAt_m a0 s3.2.2.2.2.1 (IntKind.i64.wrap (1 - s8.2.2.2.2.1))) fun x15 =>
 gd ((0:Int)≤x15∧x15<((a0.Bridges.length:Nat):Int)) <|
 bd (impl_TreeVector_compare_m (⟨x12.Vector.Root,IntKind.i64.wrap (x12.Vector.Cost+((a0.Links.getD s3.2.2.2.2.1.toNat default).Cost)),IntKind.i64.wrap (x12.Vector.Age+1)⟩:TreeVector) (⟨s8.1,s8.2.1,s8.2.2.1⟩:TreeVector)) fun x17 =>
(if ((decide (x17<0)) || ((x17 == 0) && (decide (((a0.Bridges.getD x15.toNat default).Id)<s8.2.2.2.2.2)))) = true then
 some (.inl (x12.Vector.Root,IntKind.i64.wrap (x12.Vector.Cost+((a0.Links.getD s3.2.2.2.2.1.toNat default).Cost)),IntKind.i64.wrap (x12.Vector.Age+1),s3.2.2.2.2.1,IntKind.i64.wrap (s8.2.2.2.2.1+1),(a0.Bridges.getD x15.toNat default).Id))
else
 some (.inl (s8.1,s8.2.1,s8.2.2.1,s8.2.2.2.1,IntKind.i64.wrap (s8.2.2.2.2.1+1),s8.2.2.2.2.2))))
else
 some (.inr (s8.2.2.2.2.2,s8.1,s8.2.1,s8.2.2.1,s8.2.2.2.1)))) (s3.1,s3.2.1,s3.2.2.1,s3.2.2.2.1,0,s3.2.2.2.2.2)) fun x11 =>
 some (.inl (x11.2.1,x11.2.2.1,x11.2.2.2.1,x11.2.2.2.2,IntKind.i64.wrap (s3.2.2.2.2.1+1),x11.1))
else
 some (.inr (s3.1,s3.2.1,s3.2.2.1,s3.2.2.2.1)))) (x2.Vector.Root,x2.Vector.Cost,x2.Vector.Age,x2.Link,0,0)) fun x6 =>
 some (⟨(⟨x6.1,x6.2.1,x6.2.2.1⟩:TreeVector),x6.2.2.2⟩:TreeMind)
theorem impl_TreeWorld_think_c {a0:TreeWorld} {a1:Int} {r:TreeMind} (h:impl_TreeWorld_think_m a0 a1 = some r):PureC Try.prog 123 [.rp [slD TreeBridge.enc a0.Bridges,slD TreeLink.enc a0.Links,slD encInt a0.Down,slD TreeSlot.enc a0.AtA,slD TreeSlot.enc a0.AtB,slD TreeWord.enc a0.Radio],.d (.int .i64 a1)] (.agg [.d (.int .i64 r.Vector.Root),.d (.int .i64 r.Vector.Cost),.d (.int .i64 r.Vector.Age),.d (.int .i64 r.Link)]) []:=by
  refine pureC_x tOk (fn:=Try.f123) (c:=codeOf Try.f123) rfl rfl ?_;unfold impl_TreeWorld_think_m at h;(conv=>whnf);refine gdI h (fun h=>?_);(conv=>whnf);obtain ⟨x2,hx2,h⟩:=bd_some h;refine cC 0 (impl_selfMind_c hx2) ?_;clear hx2;(conv=>whnf);refine seq_in tOk ?_;(conv=>whnf);obtain ⟨x6,hx6,h⟩:=bd_some h;refine loop_m tOk hx6 (fun s3=>⟨0,110,[(0,.rp [slD TreeBridge.enc a0.Bridges,slD TreeLink.enc a0.Links,slD encInt a0.Down,slD TreeSlot.enc a0.AtA,slD TreeSlot.enc a0.AtB,slD TreeWord.enc a0.Radio]),(1,.d (.int .i64 a1)),(4,.ref 4 0 0),(5,.ref 5 0 0),(6,.d (.int .i64 s3.2.2.2.2.2)),(25,.d (slD TreeLink.enc a0.Links)),(26,.d (.int .i64 ((a0.Links.length:Nat):Int))),(27,.d (.int .i64 s3.2.2.2.2.1))],[],[(5,.box 41 [.d (.int .i64 s3.1),.d (.int .i64 s3.2.1),.d (.int .i64 s3.2.2.1),.d (.int .i64 s3.2.2.2.1)]),(4,.box 41 [.d (.int .i64 0),.d (.int .i64 0),.d (.int .i64 0),.d (.int .i64 0)])],[]⟩) ?_ ?_
  · exact leX []
  · clear hx6;intro s3 y4 g5 hy4;(conv=>whnf);refine seq_in tOk ?_;(conv=>whnf);refine andI g5 (fun _ g5=>?_) (fun _ g5=>?_)
    · (conv=>whnf);refine seq_in tOk ?_;(conv=>whnf);refine gdI g5 (fun g5=>?_);(conv=>whnf);obtain ⟨x11,hx11,g5⟩:=bd_some g5;refine loop_m tOk hx11 (fun s8=>⟨0,110,[(0,.rp [slD TreeBridge.enc a0.Bridges,slD TreeLink.enc a0.Links,slD encInt a0.Down,slD TreeSlot.enc a0.AtA,slD TreeSlot.enc a0.AtB,slD TreeWord.enc a0.Radio]),(1,.d (.int .i64 a1)),(4,.ref 4 0 0),(5,.ref 5 0 0),(6,.d (.int .i64 s8.2.2.2.2.2)),(7,.d (.int .i64 s3.2.2.2.2.1)),(8,.ref 8 0 0),(25,.d (slD TreeLink.enc a0.Links)),(26,.d (.int .i64 ((a0.Links.length:Nat):Int))),(27,.d (.int .i64 s3.2.2.2.2.1)),(32,.d (.int .i64 s8.2.2.2.2.1))],[],[(8,.box 46 [.d (.int .i64 ((a0.Links.getD s3.2.2.2.2.1.toNat default).A)),.d (.int .i64 ((a0.Links.getD s3.2.2.2.2.1.toNat default).B)),.d (.int .i64 ((a0.Links.getD s3.2.2.2.2.1.toNat default).Cost))]),(5,.box 41 [.d (.int .i64 s8.1),.d (.int .i64 s8.2.1),.d (.int .i64 s8.2.2.1),.d (.int .i64 s8.2.2.2.1)]),(4,.box 41 [.d (.int .i64 0),.d (.int .i64 0),.d (.int .i64 0),.d (.int .i64 0)])],[]⟩) ?_ ?_
      · exact leX []
      · clear hx11;intro s8 y9 g10 hy9;(conv=>whnf);refine seq_in tOk ?_;(conv=>whnf);refine andI g10 (fun _ g10=>?_) (fun _ g10=>?_)
        · (conv=>whnf);refine seq_in tOk ?_;(conv=>whnf);obtain ⟨x12,hx12,g10⟩:=bd_some g10;refine cE [] 0 (impl_TreeWorld_slot_c hx12) ?_;(conv=>whnf);refine seq_in tOk ?_;(conv=>whnf);obtain ⟨x13,hx13,g10⟩:=bd_some g10;refine cC 0 (impl_TreeWorld_bridgeAt_c hx13) ?_;clear hx13;(conv=>whnf);obtain ⟨x14,hx14,g10⟩:=bd_some g10;refine callG_m rfl rfl rfl rfl rfl rfl (by intro c0; exact impl_TreeVector_nothing_c (gcall_some hx14 c0)) ?_;(conv=>whnf);refine andI g10 (fun _ g10=>?_) (fun _ g10=>?_)
          · (conv=>whnf);obtain rfl:=Option.some.inj g10;exact ⟨_,rfl,leX []⟩
          · (conv=>whnf);obtain ⟨x15,hx15,g10⟩:=bd_some g10;obtain ⟨g16,g10⟩:=gd_some g10;refine draw_u tOk [.u 8 0 (.d (.int .i64 x15)) []] 13 [] [0,1,3,7,0,0,0,64,240,511,1023,2047,4095] [] ?_;(conv=>whnf);refine And.intro (callD_any (impl_TreeWorld_bridgeAt_c hx15) (by kernel_rfl)) ?_;(conv=>whnf);refine And.intro g16 ?_;clear g16;(conv=>whnf);refine And.intro (by kernel_rfl) ?_;(conv=>whnf);obtain ⟨x17,hx17,g10⟩:=bd_some g10;refine cC 0 (impl_TreeVector_compare_c hx17) ?_;clear hx17;(conv=>whnf);refine andI g10 (fun _ g10=>?_) (fun _ g10=>?_)
            · (conv=>whnf);obtain rfl:=Option.some.inj g10;exact ⟨_,rfl,leX []⟩
            · (conv=>whnf);obtain rfl:=Option.some.inj g10;exact ⟨_,rfl,leX []⟩
        · (conv=>whnf);obtain rfl:=Option.some.inj g10;obtain rfl:=hy9 _ rfl;obtain rfl:=Option.some.inj g5;exact ⟨_,rfl,leX []⟩
    · (conv=>whnf);obtain rfl:=Option.some.inj g5;obtain rfl:=hy4 _ rfl;obtain rfl:=Option.some.inj h;exact lfP []
noncomputable def impl_TreeWorld_rethink_m (a0:TreeWorld) (a1:Int):Option (TreeWorld) :=
 gd ((0:Int)≤a1∧a1<((a0.Bridges.length:Nat):Int)) <|
(if (a0.Bridges.getD a1.toNat default).Up = true then
 bd (impl_TreeWorld_think_m a0 a1) fun x2 =>
 gd ((0:Int)≤a1∧a1<((a0.Bridges.length:Nat):Int)) <|
 some ({ a0 with Bridges:=a0.Bridges.set a1.toNat ({ (a0.Bridges.getD a1.toNat default) with Mind:=x2 }) })
else
 some a0)
theorem impl_TreeWorld_rethink_c {a0:TreeWorld} {a1:Int} {r:TreeWorld} (h:impl_TreeWorld_rethink_m a0 a1 = some r):EffC Try.prog 94 [.ref 9000 0 0,.d (.int .i64 a1)] [(9000,.box 29 [.osl 9001 0 a0.Bridges.length,.d (slD TreeLink.enc a0.Links),.d (slD encInt a0.Down),.d (slD TreeSlot.enc a0.AtA),.d (slD TreeSlot.enc a0.AtB),.d (slD TreeWord.enc a0.Radio)]),(9001,.arr 43 6 a0.Bridges.length (rows TreeBridge.enc a0.Bridges))] (.tup []) [(9000,.box 29 [.osl 5001 0 r.Bridges.length,.d (slD TreeLink.enc a0.Links),.d (slD encInt a0.Down),.d (slD TreeSlot.enc a0.AtA),.d (slD TreeSlot.enc a0.AtB),.d (slD TreeWord.enc a0.Radio)]),(5001,.arr 43 6 r.Bridges.length (rows TreeBridge.enc r.Bridges))]:=by
  refine effC_x tOk (fn:=Try.f94) (c:=codeOf Try.f94) rfl rfl ?_;unfold impl_TreeWorld_rethink_m at h;(conv=>whnf);refine gdI h (fun h=>?_);(conv=>whnf);refine andI h (fun _ h=>?_) (fun _ h=>?_)
  · (conv=>whnf);obtain ⟨x2,hx2,h⟩:=bd_some h;obtain ⟨g3,h⟩:=gd_some h;refine draw_u tOk [.u 7 0 (.agg [.d (.int .i64 x2.Vector.Root),.d (.int .i64 x2.Vector.Cost),.d (.int .i64 x2.Vector.Age),.d (.int .i64 x2.Link)]) []] 10 [] [0,1,3,7,0,0,0,96,255,511] [1023] ?_;(conv=>whnf);refine And.intro (callD_any (impl_TreeWorld_think_c hx2) (by kernel_rfl)) ?_;(conv=>whnf);refine And.intro g3 ?_;clear g3;(conv=>whnf);refine And.intro (by kernel_rfl) ?_;(conv=>whnf);refine ⟨rows TreeBridge.enc (a0.Bridges.set a1.toNat ({ (a0.Bridges.getD a1.toNat default) with Mind:=x2 })),store_rows' lenA rfl,?_⟩;(conv=>whnf);obtain rfl:=Option.some.inj h;exact lfE [.s [(5001,9001),(9001,5001)]]
  · (conv=>whnf);obtain rfl:=Option.some.inj h;exact lfE [.s [(5001,9001),(9001,5001)]]
noncomputable def impl_TreeWorld_put_r00_03_04_m (a0:TreeWorld) (a1:TreeWord):Option (TreeWorld) :=
(if (decide (((a0.Radio.length:Nat):Int)<12)) = true then
 gd (((a0.Radio.length)+(([a1]:List TreeWord).length)) * (40+1)≤70368744177664) <|
 some ({ a0 with Radio:=(a0.Radio ++ ([a1]:List TreeWord)) })
else
 some a0)
theorem impl_TreeWorld_put_r00_03_04_c {a0:TreeWorld} {a1:TreeWord} {r:TreeWorld} (h:impl_TreeWorld_put_r00_03_04_m a0 a1 = some r):EffC Try.prog 91 [.ref 9000 0 0,.agg [.d (.int .i64 a1.Link),.d (.int .i64 a1.End),.d (.int .i64 a1.Vector.Root),.d (.int .i64 a1.Vector.Cost),.d (.int .i64 a1.Vector.Age)]] [(9000,.box 29 [.osl 9001 0 a0.Bridges.length,.d (slD TreeLink.enc a0.Links),.d (slD encInt a0.Down),.osl 9002 0 a0.AtA.length,.osl 9003 0 a0.AtB.length,.osl 9004 0 a0.Radio.length]),(9001,.arr 43 6 a0.Bridges.length (rows TreeBridge.enc a0.Bridges)),(9002,.arr 107 4 a0.AtA.length (rows TreeSlot.enc a0.AtA)),(9003,.arr 107 4 a0.AtB.length (rows TreeSlot.enc a0.AtB)),(9004,.arr 76 5 a0.Radio.length (rows TreeWord.enc a0.Radio))] (.tup []) [(9000,.box 29 [.osl 5001 0 r.Bridges.length,.d (slD TreeLink.enc a0.Links),.d (slD encInt a0.Down),.osl 5002 0 r.AtA.length,.osl 5003 0 r.AtB.length,.osl 5004 0 r.Radio.length]),(5001,.arr 43 6 r.Bridges.length (rows TreeBridge.enc r.Bridges)),(5002,.arr 107 4 r.AtA.length (rows TreeSlot.enc r.AtA)),(5003,.arr 107 4 r.AtB.length (rows TreeSlot.enc r.AtB)),(5004,.arr 76 5 r.Radio.length (rows TreeWord.enc r.Radio))]:=by
  refine effC_x tOk (fn:=Try.f91) (c:=codeOf Try.f91) rfl rfl ?_;unfold impl_TreeWorld_put_r00_03_04_m at h;(conv=>whnf);refine andI h (fun _ h=>?_) (fun _ h=>?_)
  · (conv=>whnf);obtain ⟨g1,h⟩:=gd_some h;refine draw_t tOk [.a 7 [(9004,.arr 76 5 a0.Radio.length (rows TreeWord.enc a0.Radio))] (.osl 17 0 ((a0.Radio ++ ([a1]:List TreeWord)).length)) [(17,.arr 76 5 ((a0.Radio ++ ([a1]:List TreeWord)).length) (rows TreeWord.enc (a0.Radio ++ ([a1]:List TreeWord))))]] 10 [] [0,0,2,6,14,0,32,126,255,511] [1023] [9004] ?_;(conv=>whnf);refine bldS (enc:=TreeWord.enc) ([a1]:List TreeWord) ?_;(conv=>whnf);refine And.intro (by (conv=>whnf); exact ⟨g1,appS (enc:=TreeWord.enc) (xs:=a0.Radio) (ys:=([a1]:List TreeWord)) ⟨rfl,rfl⟩⟩) ?_;(conv=>whnf);refine And.intro (by kernel_rfl) ?_;(conv=>whnf);obtain rfl:=Option.some.inj h;exact lfE [.s [(17,5004),(5001,9001),(5002,9002),(5003,9003),(5004,17),(9001,5001),(9002,5002),(9003,5003)]]
  · (conv=>whnf);obtain rfl:=Option.some.inj h;exact lfE [.s [(5001,9001),(5002,9002),(5003,9003),(5004,9004),(9001,5001),(9002,5002),(9003,5003),(9004,5004)]]
noncomputable def impl_copyTree_o00_03_04_05_m (a0:TreeWorld):Option (TreeWorld) :=
 bd (impl_clone_TreeBridge_m a0.Bridges) fun x1 =>
 bd (impl_clone_TreeLink_m a0.Links) fun x2 =>
 bd (impl_clone_int_m a0.Down) fun x3 =>
 bd (impl_clone_TreeSlot_m a0.AtA) fun x4 =>
 bd (impl_clone_TreeSlot_m a0.AtB) fun x5 =>
 bd (impl_clone_TreeWord_m a0.Radio) fun x6 =>
 some (⟨x1,x2,x3,x4,x5,x6⟩:TreeWorld)
theorem impl_copyTree_o00_03_04_05_c {a0:TreeWorld} {r:TreeWorld} (h:impl_copyTree_o00_03_04_05_m a0 = some r):EffC Try.prog 45 [.agg [.d (slD TreeBridge.enc a0.Bridges),.d (slD TreeLink.enc a0.Links),.d (slD encInt a0.Down),.d (slD TreeSlot.enc a0.AtA),.d (slD TreeSlot.enc a0.AtB),.d (slD TreeWord.enc a0.Radio)]] [] (.agg [.osl 5001 0 r.Bridges.length,.osl 5002 0 r.Links.length,.osl 5003 0 r.Down.length,.osl 5004 0 r.AtA.length,.osl 5005 0 r.AtB.length,.osl 5006 0 r.Radio.length]) [(5001,.arr 43 6 r.Bridges.length (rows TreeBridge.enc r.Bridges)),(5002,.arr 46 3 r.Links.length (rows TreeLink.enc r.Links)),(5003,.arr 3 1 r.Down.length (rows encInt r.Down)),(5004,.arr 107 4 r.AtA.length (rows TreeSlot.enc r.AtA)),(5005,.arr 107 4 r.AtB.length (rows TreeSlot.enc r.AtB)),(5006,.arr 76 5 r.Radio.length (rows TreeWord.enc r.Radio))]:=by
  have k:impl_copyTree_m a0 = some r:=h;exact PureC.eff (impl_copyTree_c k) rfl rfl
noncomputable def impl_TreeWorld_rethink_r03_04_05_m (a0:TreeWorld) (a1:Int):Option (TreeWorld) :=
 gd ((0:Int)≤a1∧a1<((a0.Bridges.length:Nat):Int)) <|
(if (a0.Bridges.getD a1.toNat default).Up = true then
 bd (impl_TreeWorld_think_m a0 a1) fun x2 =>
 gd ((0:Int)≤a1∧a1<((a0.Bridges.length:Nat):Int)) <|
 some ({ a0 with Bridges:=a0.Bridges.set a1.toNat ({ (a0.Bridges.getD a1.toNat default) with Mind:=x2 }) })
else
 some a0)
theorem impl_TreeWorld_rethink_r03_04_05_c {a0:TreeWorld} {a1:Int} {r:TreeWorld} (h:impl_TreeWorld_rethink_r03_04_05_m a0 a1 = some r):EffC Try.prog 94 [.ref 9000 0 0,.d (.int .i64 a1)] [(9000,.box 29 [.osl 9001 0 a0.Bridges.length,.d (slD TreeLink.enc a0.Links),.d (slD encInt a0.Down),.osl 9002 0 a0.AtA.length,.osl 9003 0 a0.AtB.length,.osl 9004 0 a0.Radio.length]),(9001,.arr 43 6 a0.Bridges.length (rows TreeBridge.enc a0.Bridges)),(9002,.arr 107 4 a0.AtA.length (rows TreeSlot.enc a0.AtA)),(9003,.arr 107 4 a0.AtB.length (rows TreeSlot.enc a0.AtB)),(9004,.arr 76 5 a0.Radio.length (rows TreeWord.enc a0.Radio))] (.tup []) [(9000,.box 29 [.osl 5001 0 r.Bridges.length,.d (slD TreeLink.enc a0.Links),.d (slD encInt a0.Down),.osl 5002 0 r.AtA.length,.osl 5003 0 r.AtB.length,.osl 5004 0 r.Radio.length]),(5001,.arr 43 6 r.Bridges.length (rows TreeBridge.enc r.Bridges)),(5002,.arr 107 4 r.AtA.length (rows TreeSlot.enc r.AtA)),(5003,.arr 107 4 r.AtB.length (rows TreeSlot.enc r.AtB)),(5004,.arr 76 5 r.Radio.length (rows TreeWord.enc r.Radio))]:=by
  refine effC_x tOk (fn:=Try.f94) (c:=codeOf Try.f94) rfl rfl ?_;unfold impl_TreeWorld_rethink_r03_04_05_m at h;(conv=>whnf);refine gdI h (fun h=>?_);(conv=>whnf);refine andI h (fun _ h=>?_) (fun _ h=>?_)
  · (conv=>whnf);obtain ⟨x2,hx2,h⟩:=bd_some h;obtain ⟨g3,h⟩:=gd_some h;refine draw_u tOk [.u 7 0 (.agg [.d (.int .i64 x2.Vector.Root),.d (.int .i64 x2.Vector.Cost),.d (.int .i64 x2.Vector.Age),.d (.int .i64 x2.Link)]) []] 10 [] [0,1,3,7,0,0,0,96,255,511] [1023] ?_;(conv=>whnf);refine And.intro (callD_any (impl_TreeWorld_think_c hx2) (by kernel_rfl)) ?_;(conv=>whnf);refine And.intro g3 ?_;clear g3;(conv=>whnf);refine And.intro (by kernel_rfl) ?_;(conv=>whnf);refine ⟨rows TreeBridge.enc (a0.Bridges.set a1.toNat ({ (a0.Bridges.getD a1.toNat default) with Mind:=x2 })),store_rows' lenA rfl,?_⟩;(conv=>whnf);obtain rfl:=Option.some.inj h;exact lfE [.s [(5001,9001),(5002,9002),(5003,9003),(5004,9004),(9001,5001),(9002,5002),(9003,5003),(9004,5004)]]
  · (conv=>whnf);obtain rfl:=Option.some.inj h;exact lfE [.s [(5001,9001),(5002,9002),(5003,9003),(5004,9004),(9001,5001),(9002,5002),(9003,5003),(9004,5004)]]
noncomputable def impl_TreeWorld_slot_r00_03_04_05_at_s1_m (a0:TreeWorld) (a1:Int) (a2:Int):Option (Nat × TreeWorld) :=
 gd ((0:Int)≤a1∧a1<((a0.AtA.length:Nat):Int)) <|
 some (a1.toNat,a0)
theorem impl_TreeWorld_slot_r00_03_04_05_at_s1_c {a0:TreeWorld} {a1:Int} {a2:Int} (e:(a2 == 0) = true) {r:Nat × TreeWorld} (h:impl_TreeWorld_slot_r00_03_04_05_at_s1_m a0 a1 a2 = some r):EffC Try.prog 93 [.ref 9000 0 0,.d (.int .i64 a1),.d (.int .i64 a2)] [(9000,.box 29 [.osl 9001 0 a0.Bridges.length,.d (slD TreeLink.enc a0.Links),.d (slD encInt a0.Down),.osl 9002 0 a0.AtA.length,.osl 9003 0 a0.AtB.length,.osl 9004 0 a0.Radio.length]),(9001,.arr 43 6 a0.Bridges.length (rows TreeBridge.enc a0.Bridges)),(9002,.arr 107 4 a0.AtA.length (rows TreeSlot.enc a0.AtA)),(9003,.arr 107 4 a0.AtB.length (rows TreeSlot.enc a0.AtB)),(9004,.arr 76 5 a0.Radio.length (rows TreeWord.enc a0.Radio))] (.ref 5002 r.1 0) [(9000,.box 29 [.osl 5001 0 r.2.Bridges.length,.d (slD TreeLink.enc a0.Links),.d (slD encInt a0.Down),.osl 5002 0 r.2.AtA.length,.osl 5003 0 r.2.AtB.length,.osl 5004 0 r.2.Radio.length]),(5001,.arr 43 6 r.2.Bridges.length (rows TreeBridge.enc r.2.Bridges)),(5002,.arr 107 4 r.2.AtA.length (rows TreeSlot.enc r.2.AtA)),(5003,.arr 107 4 r.2.AtB.length (rows TreeSlot.enc r.2.AtB)),(5004,.arr 76 5 r.2.Radio.length (rows TreeWord.enc r.2.Radio))]:=by
  refine effC_x tOk (fn:=Try.f93) (c:=codeOf Try.f93) rfl rfl ?_;unfold impl_TreeWorld_slot_r00_03_04_05_at_s1_m at h;(conv=>whnf);refine seq_in tOk ?_;(conv=>whnf);refine And.intro (fun _=>?_) (fun q=>absurd (e.symm.trans q) (by decide));(conv=>whnf);refine gdI h (fun h=>?_);(conv=>whnf);obtain rfl:=Option.some.inj h;exact lfE [.s [(5001,9001),(5002,9002),(5003,9003),(5004,9004),(9001,5001),(9002,5002),(9003,5003),(9004,5004)]]
noncomputable def impl_TreeWorld_slot_r00_03_04_05_at_s0_m (a0:TreeWorld) (a1:Int) (a2:Int):Option (Nat × TreeWorld) :=
 gd ((0:Int)≤a1∧a1<((a0.AtB.length:Nat):Int)) <|
 some (a1.toNat,a0)
theorem impl_TreeWorld_slot_r00_03_04_05_at_s0_c {a0:TreeWorld} {a1:Int} {a2:Int} (e:(a2 == 0) = false) {r:Nat × TreeWorld} (h:impl_TreeWorld_slot_r00_03_04_05_at_s0_m a0 a1 a2 = some r):EffC Try.prog 93 [.ref 9000 0 0,.d (.int .i64 a1),.d (.int .i64 a2)] [(9000,.box 29 [.osl 9001 0 a0.Bridges.length,.d (slD TreeLink.enc a0.Links),.d (slD encInt a0.Down),.osl 9002 0 a0.AtA.length,.osl 9003 0 a0.AtB.length,.osl 9004 0 a0.Radio.length]),(9001,.arr 43 6 a0.Bridges.length (rows TreeBridge.enc a0.Bridges)),(9002,.arr 107 4 a0.AtA.length (rows TreeSlot.enc a0.AtA)),(9003,.arr 107 4 a0.AtB.length (rows TreeSlot.enc a0.AtB)),(9004,.arr 76 5 a0.Radio.length (rows TreeWord.enc a0.Radio))] (.ref 5003 r.1 0) [(9000,.box 29 [.osl 5001 0 r.2.Bridges.length,.d (slD TreeLink.enc a0.Links),.d (slD encInt a0.Down),.osl 5002 0 r.2.AtA.length,.osl 5003 0 r.2.AtB.length,.osl 5004 0 r.2.Radio.length]),(5001,.arr 43 6 r.2.Bridges.length (rows TreeBridge.enc r.2.Bridges)),(5002,.arr 107 4 r.2.AtA.length (rows TreeSlot.enc r.2.AtA)),(5003,.arr 107 4 r.2.AtB.length (rows TreeSlot.enc r.2.AtB)),(5004,.arr 76 5 r.2.Radio.length (rows TreeWord.enc r.2.Radio))]:=by
  refine effC_x tOk (fn:=Try.f93) (c:=codeOf Try.f93) rfl rfl ?_;unfold impl_TreeWorld_slot_r00_03_04_05_at_s0_m at h;(conv=>whnf);refine seq_in tOk ?_;(conv=>whnf);refine And.intro (fun q=>absurd (e.symm.trans q) (by decide)) (fun _=>?_);(conv=>whnf);refine gdI h (fun h=>?_);(conv=>whnf);obtain rfl:=Option.some.inj h;exact lfE [.s [(5001,9001),(5002,9002),(5003,9003),(5004,9004),(9001,5001),(9002,5002),(9003,5003),(9004,5004)]]
noncomputable def impl_TreeWorld_hear_r05_k03_04_05_m (a0:TreeWorld) (a1:Int) (a2:Int) (a3:TreeVector):Option (TreeWorld) :=
 bd (impl_TreeWorld_bridgeAt_m a0 a1 a2) fun x1 =>
 bd (impl_TreeWorld_isDown_m a0 a1) fun x2 =>
 gd (x2 = false → ((0:Int)≤x1∧x1<((a0.Bridges.length:Nat):Int))) <|
(if (x2 || (!((a0.Bridges.getD x1.toNat default).Up))) = true then
 some a0
else
(if (a2 == 0) = true then
 bd (impl_TreeWorld_slot_r00_03_04_05_at_s1_m a0 a1 a2) fun x5 =>
 bd (impl_TreeWorld_rethink_r03_04_05_m ({ x5.2 with Links:=a0.Links,Down:=a0.Down,AtA:=x5.2.AtA.set x5.1 (⟨a3,3⟩:TreeSlot) }) x1) fun x6 =>
 some ({ x6 with Links:=a0.Links,Down:=a0.Down })
else
 bd (impl_TreeWorld_slot_r00_03_04_05_at_s0_m a0 a1 a2) fun x7 =>
 bd (impl_TreeWorld_rethink_r03_04_05_m ({ x7.2 with Links:=a0.Links,Down:=a0.Down,AtB:=x7.2.AtB.set x7.1 (⟨a3,3⟩:TreeSlot) }) x1) fun x8 =>
 some ({ x8 with Links:=a0.Links,Down:=a0.Down })))
theorem impl_TreeWorld_hear_r05_k03_04_05_c {a0:TreeWorld} {a1:Int} {a2:Int} {a3:TreeVector} {r:TreeWorld} (h:impl_TreeWorld_hear_r05_k03_04_05_m a0 a1 a2 a3 = some r):EffC Try.prog 65 [.ref 9000 0 0,.d (.int .i64 a1),.d (.int .i64 a2),.agg [.d (.int .i64 a3.Root),.d (.int .i64 a3.Cost),.d (.int .i64 a3.Age)]] [(9000,.box 29 [.osl 9001 0 a0.Bridges.length,.d (slD TreeLink.enc a0.Links),.d (slD encInt a0.Down),.osl 9002 0 a0.AtA.length,.osl 9003 0 a0.AtB.length,.osl 9004 0 a0.Radio.length]),(9001,.arr 43 6 a0.Bridges.length (rows TreeBridge.enc a0.Bridges)),(9002,.arr 107 4 a0.AtA.length (rows TreeSlot.enc a0.AtA)),(9003,.arr 107 4 a0.AtB.length (rows TreeSlot.enc a0.AtB)),(9004,.arr 76 5 a0.Radio.length (rows TreeWord.enc a0.Radio))] (.tup []) [(9000,.box 29 [.osl 5001 0 r.Bridges.length,.d (slD TreeLink.enc a0.Links),.d (slD encInt a0.Down),.osl 5002 0 r.AtA.length,.osl 5003 0 r.AtB.length,.osl 5004 0 r.Radio.length]),(5001,.arr 43 6 r.Bridges.length (rows TreeBridge.enc r.Bridges)),(5002,.arr 107 4 r.AtA.length (rows TreeSlot.enc r.AtA)),(5003,.arr 107 4 r.AtB.length (rows TreeSlot.enc r.AtB)),(5004,.arr 76 5 r.Radio.length (rows TreeWord.enc r.Radio))]:=by
  refine effC_x tOk (fn:=Try.f65) (c:=codeOf Try.f65) rfl rfl ?_;unfold impl_TreeWorld_hear_r05_k03_04_05_m at h;(conv=>whnf);obtain ⟨x1,hx1,h⟩:=bd_some h;refine cC 0 (impl_TreeWorld_bridgeAt_c hx1) ?_;clear hx1;(conv=>whnf);refine seq_in tOk ?_;(conv=>whnf);obtain ⟨x2,hx2,h⟩:=bd_some h;refine cC 0 (impl_TreeWorld_isDown_c hx2) ?_;clear hx2;(conv=>whnf);refine gdI h (fun h=>?_);(conv=>whnf);refine andI h (fun _ h=>?_) (fun _ h=>?_)
  · (conv=>whnf);obtain rfl:=Option.some.inj h;exact lfE [.s [(5001,9001),(5002,9002),(5003,9003),(5004,9004),(9001,5001),(9002,5002),(9003,5003),(9004,5004)]]
  · (conv=>whnf);refine spI h (fun e4 h=>?_) (fun e4 h=>?_)
    · obtain ⟨x5,hx5,h⟩:=bd_some h;refine draw_t tOk [.e 3 [(9000,.box 29 [.osl 9001 0 a0.Bridges.length,.d (slD TreeLink.enc a0.Links),.d (slD encInt a0.Down),.osl 9002 0 a0.AtA.length,.osl 9003 0 a0.AtB.length,.osl 9004 0 a0.Radio.length]),(9001,.arr 43 6 a0.Bridges.length (rows TreeBridge.enc a0.Bridges)),(9002,.arr 107 4 a0.AtA.length (rows TreeSlot.enc a0.AtA)),(9003,.arr 107 4 a0.AtB.length (rows TreeSlot.enc a0.AtB)),(9004,.arr 76 5 a0.Radio.length (rows TreeWord.enc a0.Radio))] (.ref 6002 x5.1 0) [] [(6001,.arr 43 6 x5.2.Bridges.length (rows TreeBridge.enc x5.2.Bridges)),(6002,.arr 107 4 x5.2.AtA.length (rows TreeSlot.enc x5.2.AtA)),(6003,.arr 107 4 x5.2.AtB.length (rows TreeSlot.enc x5.2.AtB)),(6004,.arr 76 5 x5.2.Radio.length (rows TreeWord.enc x5.2.Radio)),(9000,.box 29 [.osl 6001 0 x5.2.Bridges.length,.d (slD TreeLink.enc a0.Links),.d (slD encInt a0.Down),.osl 6002 0 x5.2.AtA.length,.osl 6003 0 x5.2.AtB.length,.osl 6004 0 x5.2.Radio.length])]] 7 [] [0,0,0,7,0,16,63] [127] [9000,9001,9002,9003,9004] ?_;(conv=>whnf);refine And.intro (eH [(9000,9000),(9001,9001),(9002,9002),(9003,9003),(9004,9004)] 1000 (impl_TreeWorld_slot_r00_03_04_05_at_s1_c e4 hx5)) ?_;(conv=>whnf);refine And.intro (by kernel_rfl) ?_;(conv=>whnf);refine ⟨rows TreeSlot.enc (x5.2.AtA.set x5.1 (⟨a3,3⟩:TreeSlot)),store_rows' lenA rfl,?_⟩;(conv=>whnf);obtain ⟨x6,hx6,h⟩:=bd_some h;refine cE [(9000,9000),(9001,6001),(9002,6002),(9003,6003),(9004,6004)] 2000 (impl_TreeWorld_rethink_r03_04_05_c hx6) ?_;(conv=>whnf);obtain rfl:=Option.some.inj h;exact lfE [.s [(5001,7001),(5002,7002),(5003,7003),(5004,7004),(7001,5001),(7002,5002),(7003,5003),(7004,5004)]]
    · obtain ⟨x7,hx7,h⟩:=bd_some h;refine draw_t tOk [.e 3 [(9000,.box 29 [.osl 9001 0 a0.Bridges.length,.d (slD TreeLink.enc a0.Links),.d (slD encInt a0.Down),.osl 9002 0 a0.AtA.length,.osl 9003 0 a0.AtB.length,.osl 9004 0 a0.Radio.length]),(9001,.arr 43 6 a0.Bridges.length (rows TreeBridge.enc a0.Bridges)),(9002,.arr 107 4 a0.AtA.length (rows TreeSlot.enc a0.AtA)),(9003,.arr 107 4 a0.AtB.length (rows TreeSlot.enc a0.AtB)),(9004,.arr 76 5 a0.Radio.length (rows TreeWord.enc a0.Radio))] (.ref 6003 x7.1 0) [] [(6001,.arr 43 6 x7.2.Bridges.length (rows TreeBridge.enc x7.2.Bridges)),(6002,.arr 107 4 x7.2.AtA.length (rows TreeSlot.enc x7.2.AtA)),(6003,.arr 107 4 x7.2.AtB.length (rows TreeSlot.enc x7.2.AtB)),(6004,.arr 76 5 x7.2.Radio.length (rows TreeWord.enc x7.2.Radio)),(9000,.box 29 [.osl 6001 0 x7.2.Bridges.length,.d (slD TreeLink.enc a0.Links),.d (slD encInt a0.Down),.osl 6002 0 x7.2.AtA.length,.osl 6003 0 x7.2.AtB.length,.osl 6004 0 x7.2.Radio.length])]] 7 [] [0,0,0,7,0,16,63] [127] [9000,9001,9002,9003,9004] ?_;(conv=>whnf);refine And.intro (eH [(9000,9000),(9001,9001),(9002,9002),(9003,9003),(9004,9004)] 1000 (impl_TreeWorld_slot_r00_03_04_05_at_s0_c e4 hx7)) ?_;(conv=>whnf);refine And.intro (by kernel_rfl) ?_;(conv=>whnf);refine ⟨rows TreeSlot.enc (x7.2.AtB.set x7.1 (⟨a3,3⟩:TreeSlot)),store_rows' lenA rfl,?_⟩;(conv=>whnf);obtain ⟨x8,hx8,h⟩:=bd_some h;refine cE [(9000,9000),(9001,6001),(9002,6002),(9003,6003),(9004,6004)] 2000 (impl_TreeWorld_rethink_r03_04_05_c hx8) ?_;(conv=>whnf);obtain rfl:=Option.some.inj h;exact lfE [.s [(5001,7001),(5002,7002),(5003,7003),(5004,7004),(7001,5001),(7002,5002),(7003,5003),(7004,5004)]]
noncomputable def impl_TreeWorld_onWord_k00_03_04_05_m (a0:TreeWorld) (a1:Int) (a2:Int):Option (TreeWorld) :=
 bd (impl_within_m a2 0 (IntKind.i64.wrap (((a0.Radio.length:Nat):Int) - 1))) fun x1 =>
(if (!x1) = true then
 some a0
else
 gd ((0:Int)≤a2∧a2<((a0.Radio.length:Nat):Int)) <|
(if (a1 == 3) = true then
 bd (impl_TreeWorld_put_r00_03_04_m a0 ({ (a0.Radio.getD a2.toNat default) with Vector:=((a0.Radio.getD a2.toNat default).Vector) })) fun x3 =>
 some ({ x3 with Links:=a0.Links,Down:=a0.Down })
else
 bd (slices_Delete_TreeWord_TreeWord_m a0.Radio a2 (IntKind.i64.wrap (a2+1))) fun x4 =>
(if (a1 == 2) = true then
 bd (impl_TreeWorld_hear_r05_k03_04_05_m ({ a0 with Radio:=x4 }) ((a0.Radio.getD a2.toNat default).Link) ((a0.Radio.getD a2.toNat default).End) ((a0.Radio.getD a2.toNat default).Vector)) fun x5 =>
 some ({ x5 with Links:=a0.Links,Down:=a0.Down })
else
 some ({ a0 with Radio:=x4 }))))
theorem impl_TreeWorld_onWord_k00_03_04_05_c {a0:TreeWorld} {a1:Int} {a2:Int} {r:TreeWorld} (h:impl_TreeWorld_onWord_k00_03_04_05_m a0 a1 a2 = some r):EffC Try.prog 46 [.ref 9000 0 0,.d (.int .i64 a1),.d (.int .i64 a2)] [(9000,.box 29 [.osl 9001 0 a0.Bridges.length,.d (slD TreeLink.enc a0.Links),.d (slD encInt a0.Down),.osl 9002 0 a0.AtA.length,.osl 9003 0 a0.AtB.length,.osl 9004 0 a0.Radio.length]),(9001,.arr 43 6 a0.Bridges.length (rows TreeBridge.enc a0.Bridges)),(9002,.arr 107 4 a0.AtA.length (rows TreeSlot.enc a0.AtA)),(9003,.arr 107 4 a0.AtB.length (rows TreeSlot.enc a0.AtB)),(9004,.arr 76 5 a0.Radio.length (rows TreeWord.enc a0.Radio))] (.tup []) [(9000,.box 29 [.osl 5001 0 r.Bridges.length,.d (slD TreeLink.enc a0.Links),.d (slD encInt a0.Down),.osl 5002 0 r.AtA.length,.osl 5003 0 r.AtB.length,.osl 5004 0 r.Radio.length]),(5001,.arr 43 6 r.Bridges.length (rows TreeBridge.enc r.Bridges)),(5002,.arr 107 4 r.AtA.length (rows TreeSlot.enc r.AtA)),(5003,.arr 107 4 r.AtB.length (rows TreeSlot.enc r.AtB)),(5004,.arr 76 5 r.Radio.length (rows TreeWord.enc r.Radio))]:=by
  refine effC_x tOk (fn:=Try.f46) (c:=codeOf Try.f46) rfl rfl ?_;unfold impl_TreeWorld_onWord_k00_03_04_05_m at h;(conv=>whnf);refine seq_in tOk ?_;(conv=>whnf);obtain ⟨x1,hx1,h⟩:=bd_some h;refine cC 0 (impl_within_c hx1) ?_;clear hx1;(conv=>whnf);refine andI h (fun _ h=>?_) (fun _ h=>?_)
  · (conv=>whnf);obtain rfl:=Option.some.inj h;exact lfE [.s [(5001,9001),(5002,9002),(5003,9003),(5004,9004),(9001,5001),(9002,5002),(9003,5003),(9004,5004)]]
  · (conv=>whnf);refine gdI h (fun h=>?_);(conv=>whnf);refine seq_in tOk ?_;(conv=>whnf);refine andI h (fun _ h=>?_) (fun _ h=>?_)
    · (conv=>whnf);obtain ⟨x3,hx3,h⟩:=bd_some h;refine cE [(9000,9000),(9001,9001),(9002,9002),(9003,9003),(9004,9004)] 1000 (impl_TreeWorld_put_r00_03_04_c hx3) ?_;(conv=>whnf);obtain rfl:=Option.some.inj h;exact lfE [.s [(5001,6001),(5002,6002),(5003,6003),(5004,6004),(6001,5001),(6002,5002),(6003,5003),(6004,5004)]]
    · (conv=>whnf);obtain ⟨x4,hx4,h⟩:=bd_some h;refine cE [(9000,9004)] 1000 (slices_Delete_TreeWord_TreeWord_c hx4) ?_;(conv=>whnf);refine andI h (fun _ h=>?_) (fun _ h=>?_)
      · (conv=>whnf);obtain ⟨x5,hx5,h⟩:=bd_some h;refine cE [(9000,9000),(9001,9001),(9002,9002),(9003,9003),(9004,6001)] 2000 (impl_TreeWorld_hear_r05_k03_04_05_c hx5) ?_;(conv=>whnf);obtain rfl:=Option.some.inj h;exact lfE [.s [(5001,7001),(5002,7002),(5003,7003),(5004,7004),(7001,5001),(7002,5002),(7003,5003),(7004,5004)]]
      · (conv=>whnf);obtain rfl:=Option.some.inj h;exact lfE [.s [(5001,9001),(5002,9002),(5003,9003),(5004,6001),(6001,5004),(9001,5001),(9002,5002),(9003,5003)]]
noncomputable def impl_TreeWorld_open_m (a0:TreeWorld) (a1:Int):Option (Bool) :=
 gd ((0:Int)≤a1∧a1<((a0.Links.length:Nat):Int)) <|
 bd (impl_TreeWorld_isDown_m a0 a1) fun x2 =>
 gd ((!x2) = true → ((0:Int)≤(a0.Links.getD a1.toNat default).A∧(a0.Links.getD a1.toNat default).A<((a0.Bridges.length:Nat):Int))) <|
 gd (((!x2) && (a0.Bridges.getD (((a0.Links.getD a1.toNat default).A).toNat) default).Up) = true → ((0:Int)≤(a0.Links.getD a1.toNat default).B∧(a0.Links.getD a1.toNat default).B<((a0.Bridges.length:Nat):Int))) <|
 some (((!x2) && (a0.Bridges.getD (((a0.Links.getD a1.toNat default).A).toNat) default).Up) && (a0.Bridges.getD (((a0.Links.getD a1.toNat default).B).toNat) default).Up)
theorem impl_TreeWorld_open_c {a0:TreeWorld} {a1:Int} {r:Bool} (h:impl_TreeWorld_open_m a0 a1 = some r):PureC Try.prog 64 [.rp [slD TreeBridge.enc a0.Bridges,slD TreeLink.enc a0.Links,slD encInt a0.Down,slD TreeSlot.enc a0.AtA,slD TreeSlot.enc a0.AtB,slD TreeWord.enc a0.Radio],.d (.int .i64 a1)] (.d (.bool r)) []:=by
  refine pureC_x tOk (fn:=Try.f64) (c:=codeOf Try.f64) rfl rfl ?_;unfold impl_TreeWorld_open_m at h;(conv=>whnf);refine gdI h (fun h=>?_);(conv=>whnf);obtain ⟨x2,hx2,h⟩:=bd_some h;obtain ⟨g3,h⟩:=gd_some h;obtain ⟨g4,h⟩:=gd_some h;refine draw_u tOk [.u 2 0 (.d (.bool x2)) []] 27 [] [0,0,3,7,15,31,63,127,255,31,543,2047,4095,8191,16383,32767,65535,131071,262143,524287,65535,1114111,4194303,8388607,16777215,33554431,67108863] [] ?_;(conv=>whnf);refine And.intro (callD_any (impl_TreeWorld_isDown_c hx2) (by kernel_rfl)) ?_;(conv=>whnf);refine And.intro g3 ?_;clear g3;(conv=>whnf);refine And.intro g4 ?_;clear g4;(conv=>whnf);refine And.intro (by kernel_rfl) ?_;(conv=>whnf);obtain rfl:=Option.some.inj h;exact lfP []
noncomputable def impl_TreeWorld_told_m (a0:TreeWorld) (a1:Int) (a2:Int):Option (TreeVector) :=
 bd (impl_TreeWorld_bridgeAt_m a0 a1 (IntKind.i64.wrap (1 - a2))) fun x1 =>
 gd ((0:Int)≤x1∧x1<((a0.Bridges.length:Nat):Int)) <|
 some (((a0.Bridges.getD x1.toNat default).Mind).Vector)
theorem impl_TreeWorld_told_c {a0:TreeWorld} {a1:Int} {a2:Int} {r:TreeVector} (h:impl_TreeWorld_told_m a0 a1 a2 = some r):PureC Try.prog 66 [.rp [slD TreeBridge.enc a0.Bridges,slD TreeLink.enc a0.Links,slD encInt a0.Down,slD TreeSlot.enc a0.AtA,slD TreeSlot.enc a0.AtB,slD TreeWord.enc a0.Radio],.d (.int .i64 a1),.d (.int .i64 a2)] (.agg [.d (.int .i64 r.Root),.d (.int .i64 r.Cost),.d (.int .i64 r.Age)]) []:=by
  refine pureC_x tOk (fn:=Try.f66) (c:=codeOf Try.f66) rfl rfl ?_;unfold impl_TreeWorld_told_m at h;(conv=>whnf);obtain ⟨x1,hx1,h⟩:=bd_some h;obtain ⟨g2,h⟩:=gd_some h;refine draw_u tOk [.u 8 0 (.d (.int .i64 x1)) []] 13 [] [0,1,3,7,0,0,0,64,240,511,1023,2047,4095] [8191] ?_;(conv=>whnf);refine And.intro (callD_any (impl_TreeWorld_bridgeAt_c hx1) (by kernel_rfl)) ?_;(conv=>whnf);refine And.intro g2 ?_;clear g2;(conv=>whnf);refine And.intro (by kernel_rfl) ?_;(conv=>whnf);obtain rfl:=Option.some.inj h;exact lfP []
noncomputable def impl_TreeWorld_tick_r05_k04_m (a0:TreeWorld):Option (TreeWorld) :=
 bd (lp (σ:=List TreeBridge × List TreeSlot × List TreeSlot × List TreeWord × Int) (β:=(Nat × Nat × Nat × Nat × (List TreeBridge) × (List TreeSlot) × (List TreeSlot) × (List TreeWord))) (fun s1 =>
(if (decide (s1.2.2.2.2<((a0.Links.length:Nat):Int))) = true then
 bd (lp (σ:=List TreeBridge × List TreeSlot × List TreeSlot × List TreeWord × Int) (β:=(Nat × Nat × Nat × Nat × (List TreeBridge) × (List TreeSlot) × (List TreeSlot) × (List TreeWord))) (fun s5 =>
(if (decide (s5.2.2.2.2<2)) = true then
(if (s5.2.2.2.2 == 0) = true then
 bd (impl_TreeWorld_slot_r00_03_04_05_at_s1_m ({ a0 with Bridges:=s5.1,AtA:=s5.2.1,AtB:=s5.2.2.1,Radio:=s5.2.2.2.1 }) s1.2.2.2.2 s5.2.2.2.2) fun x10 =>
 bd (some (x10.2.AtA.set x10.1 (⟨((x10.2.AtA.getD x10.1 default).Vector),(if (IntKind.i64.wrap (((x10.2.AtA.getD x10.1 default).Left) - 1)) > 0 then IntKind.i64.wrap (((x10.2.AtA.getD x10.1 default).Left) - 1) else 0)⟩:TreeSlot))) fun x11 =>
(if (((x11.getD x10.1 default).Left) == 0) = true then
 some (.inl (x10.2.Bridges,x11.set x10.1 (⟨(⟨0,0,0⟩:TreeVector),0⟩:TreeSlot),x10.2.AtB,x10.2.Radio,IntKind.i64.wrap (s5.2.2.2.2+1)))
else
 some (.inl (x10.2.Bridges,x11,x10.2.AtB,x10.2.Radio,IntKind.i64.wrap (s5.2.2.2.2+1))))
else
 bd (impl_TreeWorld_slot_r00_03_04_05_at_s0_m ({ a0 with Bridges:=s5.1,AtA:=s5.2.1,AtB:=s5.2.2.1,Radio:=s5.2.2.2.1 }) s1.2.2.2.2 s5.2.2.2.2) fun x12 =>
 bd (some (x12.2.AtB.set x12.1 (⟨((x12.2.AtB.getD x12.1 default).Vector),(if (IntKind.i64.wrap (((x12.2.AtB.getD x12.1 default).Left) - 1)) > 0 then IntKind.i64.wrap (((x12.2.AtB.getD x12.1 default).Left) - 1) else 0)⟩:TreeSlot))) fun x13 =>
(if (((x13.getD x12.1 default).Left) == 0) = true then
 some (.inl (x12.2.Bridges,x12.2.AtA,x13.set x12.1 (⟨(⟨0,0,0⟩:TreeVector),0⟩:TreeSlot),x12.2.Radio,IntKind.i64.wrap (s5.2.2.2.2+1)))
else
 some (.inl (x12.2.Bridges,x12.2.AtA,x13,x12.2.Radio,IntKind.i64.wrap (s5.2.2.2.2+1)))))
else
 some (.inr (s5.1.length,s5.2.1.length,s5.2.2.1.length,s5.2.2.2.1.length,s5.1,s5.2.1,s5.2.2.1,s5.2.2.2.1)))) (s1.1,s1.2.1,s1.2.2.1,s1.2.2.2.1,0)) fun x8 =>
 some (.inl (x8.2.2.2.2.1,x8.2.2.2.2.2.1,x8.2.2.2.2.2.2.1,x8.2.2.2.2.2.2.2,IntKind.i64.wrap (s1.2.2.2.2+1)))
else
 some (.inr (s1.1.length,s1.2.1.length,s1.2.2.1.length,s1.2.2.2.1.length,s1.1,s1.2.1,s1.2.2.1,s1.2.2.2.1)))) (a0.Bridges,a0.AtA,a0.AtB,a0.Radio,0)) fun x4 =>
 bd (lp (σ:=List TreeBridge × List TreeSlot × List TreeSlot × List TreeWord × Int) (β:=(Nat × Nat × Nat × Nat × (List TreeBridge) × (List TreeSlot) × (List TreeSlot) × (List TreeWord))) (fun s16 =>
(if (decide (s16.2.2.2.2<((x4.1:Nat):Int))) = true then
 bd (impl_TreeWorld_rethink_r03_04_05_m ({ a0 with Bridges:=s16.1,AtA:=s16.2.1,AtB:=s16.2.2.1,Radio:=s16.2.2.2.1 }) s16.2.2.2.2) fun x20 =>
 some (.inl (x20.Bridges,x20.AtA,x20.AtB,x20.Radio,IntKind.i64.wrap (s16.2.2.2.2+1)))
else
 some (.inr (s16.1.length,s16.2.1.length,s16.2.2.1.length,s16.2.2.2.1.length,s16.1,s16.2.1,s16.2.2.1,s16.2.2.2.1)))) (x4.2.2.2.2.1,x4.2.2.2.2.2.1,x4.2.2.2.2.2.2.1,x4.2.2.2.2.2.2.2,0)) fun x19 =>
 some ({ a0 with Bridges:=x19.2.2.2.2.1,AtA:=x19.2.2.2.2.2.1,AtB:=x19.2.2.2.2.2.2.1,Radio:=x19.2.2.2.2.2.2.2 })
theorem impl_TreeWorld_tick_r05_k04_c {a0:TreeWorld} {r:TreeWorld} (h:impl_TreeWorld_tick_r05_k04_m a0 = some r):EffC Try.prog 47 [.ref 9000 0 0] [(9000,.box 29 [.osl 9001 0 a0.Bridges.length,.d (slD TreeLink.enc a0.Links),.d (slD encInt a0.Down),.osl 9002 0 a0.AtA.length,.osl 9003 0 a0.AtB.length,.osl 9004 0 a0.Radio.length]),(9001,.arr 43 6 a0.Bridges.length (rows TreeBridge.enc a0.Bridges)),(9002,.arr 107 4 a0.AtA.length (rows TreeSlot.enc a0.AtA)),(9003,.arr 107 4 a0.AtB.length (rows TreeSlot.enc a0.AtB)),(9004,.arr 76 5 a0.Radio.length (rows TreeWord.enc a0.Radio))] (.tup []) [(9000,.box 29 [.osl 5001 0 r.Bridges.length,.d (slD TreeLink.enc a0.Links),.d (slD encInt a0.Down),.osl 5002 0 r.AtA.length,.osl 5003 0 r.AtB.length,.osl 5004 0 r.Radio.length]),(5001,.arr 43 6 r.Bridges.length (rows TreeBridge.enc r.Bridges)),(5002,.arr 107 4 r.AtA.length (rows TreeSlot.enc r.AtA)),(5003,.arr 107 4 r.AtB.length (rows TreeSlot.enc r.AtB)),(5004,.arr 76 5 r.Radio.length (rows TreeWord.enc r.Radio))]:=by
  refine effC_x tOk (fn:=Try.f47) (c:=codeOf Try.f47) rfl rfl ?_;unfold impl_TreeWorld_tick_r05_k04_m at h;(conv=>whnf);refine seq_in tOk ?_;(conv=>whnf);obtain ⟨x4,hx4,h⟩:=bd_some h;refine loop_m tOk hx4 (fun s1=>⟨0,52,[(0,.ref 9000 0 0),(10,.d (.int .i64 ((a0.Links.length:Nat):Int))),(11,.d (.int .i64 s1.2.2.2.2))],[],[(9000,.box 29 [.osl 9001 0 s1.1.length,.d (slD TreeLink.enc a0.Links),.d (slD encInt a0.Down),.osl 9002 0 s1.2.1.length,.osl 9003 0 s1.2.2.1.length,.osl 9004 0 s1.2.2.2.1.length]),(9001,.arr 43 6 s1.1.length (rows TreeBridge.enc s1.1)),(9002,.arr 107 4 s1.2.1.length (rows TreeSlot.enc s1.2.1)),(9003,.arr 107 4 s1.2.2.1.length (rows TreeSlot.enc s1.2.2.1)),(9004,.arr 76 5 s1.2.2.2.1.length (rows TreeWord.enc s1.2.2.2.1))],[⟨[(0,.ref 9000 0 0)],[]⟩]⟩) ?_ ?_
  · exact leX []
  · clear hx4;intro s1 y2 g3 hy2;(conv=>whnf);refine seq_in tOk ?_;(conv=>whnf);refine andI g3 (fun _ g3=>?_) (fun _ g3=>?_)
    · (conv=>whnf);refine seq_in tOk ?_;(conv=>whnf);obtain ⟨x8,hx8,g3⟩:=bd_some g3;refine loop_m tOk hx8 (fun s5=>⟨0,52,[(0,.ref 9000 0 0),(2,.d (.int .i64 s1.2.2.2.2)),(10,.d (.int .i64 ((a0.Links.length:Nat):Int))),(11,.d (.int .i64 s1.2.2.2.2)),(14,.d (.int .i64 s5.2.2.2.2))],[],[(9000,.box 29 [.osl 9001 0 s5.1.length,.d (slD TreeLink.enc a0.Links),.d (slD encInt a0.Down),.osl 9002 0 s5.2.1.length,.osl 9003 0 s5.2.2.1.length,.osl 9004 0 s5.2.2.2.1.length]),(9001,.arr 43 6 s5.1.length (rows TreeBridge.enc s5.1)),(9002,.arr 107 4 s5.2.1.length (rows TreeSlot.enc s5.2.1)),(9003,.arr 107 4 s5.2.2.1.length (rows TreeSlot.enc s5.2.2.1)),(9004,.arr 76 5 s5.2.2.2.1.length (rows TreeWord.enc s5.2.2.2.1))],[⟨[(0,.ref 9000 0 0)],[]⟩]⟩) ?_ ?_
      · exact leX []
      · clear hx8;intro s5 y6 g7 hy6;(conv=>whnf);refine seq_in tOk ?_;(conv=>whnf);refine andI g7 (fun _ g7=>?_) (fun _ g7=>?_)
        · (conv=>whnf);refine seq_in tOk ?_;(conv=>whnf);refine spI g7 (fun e9 g7=>?_) (fun e9 g7=>?_)
          · obtain ⟨x10,hx10,g7⟩:=bd_some g7;refine cE [(9000,9000),(9001,9001),(9002,9002),(9003,9003),(9004,9004)] 1000 (impl_TreeWorld_slot_r00_03_04_05_at_s1_c e9 hx10) ?_;(conv=>whnf);obtain ⟨x11,hx11,hlx11,g7⟩:=bd_set g7;refine setS (enc:=TreeSlot.enc) hx11 ?_;(conv=>whnf);refine andI g7 (fun _ g7=>?_) (fun _ g7=>?_)
            · (conv=>whnf);refine ⟨rows TreeSlot.enc (x11.set x10.1 (⟨(⟨0,0,0⟩:TreeVector),0⟩:TreeSlot)),store_rows' lenA rfl,?_⟩;(conv=>whnf);obtain rfl:=Option.some.inj g7;exact ⟨_,rfl,leX [.s [(6001,9001),(6002,9002),(6003,9003),(6004,9004),(9001,6001),(9002,6002),(9003,6003),(9004,6004)]]⟩
            · (conv=>whnf);obtain rfl:=Option.some.inj g7;exact ⟨_,rfl,leX [.s [(6001,9001),(6002,9002),(6003,9003),(6004,9004),(9001,6001),(9002,6002),(9003,6003),(9004,6004)]]⟩
          · obtain ⟨x12,hx12,g7⟩:=bd_some g7;refine cE [(9000,9000),(9001,9001),(9002,9002),(9003,9003),(9004,9004)] 1000 (impl_TreeWorld_slot_r00_03_04_05_at_s0_c e9 hx12) ?_;(conv=>whnf);obtain ⟨x13,hx13,hlx13,g7⟩:=bd_set g7;refine setS (enc:=TreeSlot.enc) hx13 ?_;(conv=>whnf);refine andI g7 (fun _ g7=>?_) (fun _ g7=>?_)
            · (conv=>whnf);refine ⟨rows TreeSlot.enc (x13.set x12.1 (⟨(⟨0,0,0⟩:TreeVector),0⟩:TreeSlot)),store_rows' lenA rfl,?_⟩;(conv=>whnf);obtain rfl:=Option.some.inj g7;exact ⟨_,rfl,leX [.s [(6001,9001),(6002,9002),(6003,9003),(6004,9004),(9001,6001),(9002,6002),(9003,6003),(9004,6004)]]⟩
            · (conv=>whnf);obtain rfl:=Option.some.inj g7;exact ⟨_,rfl,leX [.s [(6001,9001),(6002,9002),(6003,9003),(6004,9004),(9001,6001),(9002,6002),(9003,6003),(9004,6004)]]⟩
        · (conv=>whnf);obtain rfl:=Option.some.inj g7;obtain rfl:=hy6 _ rfl;obtain rfl:=Option.some.inj g3;exact ⟨_,rfl,leX []⟩
    · (conv=>whnf);obtain rfl:=Option.some.inj g3;obtain rfl:=hy2 _ rfl;obtain ⟨x19,hx19,h⟩:=bd_some h;refine loop_m tOk hx19 (fun s16=>⟨0,52,[(0,.ref 9000 0 0),(44,.d (.int .i64 (((s1.1.length,s1.2.1.length,s1.2.2.1.length,s1.2.2.2.1.length,s1.1,s1.2.1,s1.2.2.1,s1.2.2.2.1).1:Nat):Int))),(45,.d (.int .i64 s16.2.2.2.2))],[],[(9000,.box 29 [.osl 9001 0 s16.1.length,.d (slD TreeLink.enc a0.Links),.d (slD encInt a0.Down),.osl 9002 0 s16.2.1.length,.osl 9003 0 s16.2.2.1.length,.osl 9004 0 s16.2.2.2.1.length]),(9001,.arr 43 6 s16.1.length (rows TreeBridge.enc s16.1)),(9002,.arr 107 4 s16.2.1.length (rows TreeSlot.enc s16.2.1)),(9003,.arr 107 4 s16.2.2.1.length (rows TreeSlot.enc s16.2.2.1)),(9004,.arr 76 5 s16.2.2.2.1.length (rows TreeWord.enc s16.2.2.2.1))],[⟨[(0,.ref 9000 0 0)],[]⟩]⟩) ?_ ?_
      · exact leX []
      · clear hx19;intro s16 y17 g18 hy17;(conv=>whnf);refine seq_in tOk ?_;(conv=>whnf);refine andI g18 (fun _ g18=>?_) (fun _ g18=>?_)
        · (conv=>whnf);refine seq_in tOk ?_;(conv=>whnf);obtain ⟨x20,hx20,g18⟩:=bd_some g18;refine cE [(9000,9000),(9001,9001),(9002,9002),(9003,9003),(9004,9004)] 1000 (impl_TreeWorld_rethink_r03_04_05_c hx20) ?_;(conv=>whnf);obtain rfl:=Option.some.inj g18;exact ⟨_,rfl,leX [.s [(6001,9001),(6002,9002),(6003,9003),(6004,9004),(9001,6001),(9002,6002),(9003,6003),(9004,6004)]]⟩
        · (conv=>whnf);obtain rfl:=Option.some.inj g18;obtain rfl:=hy17 _ rfl;obtain rfl:=Option.some.inj h;exact lfE [.s [(5001,9001),(5002,9002),(5003,9003),(5004,9004),(9001,5001),(9002,5002),(9003,5003),(9004,5004)]]
noncomputable def impl_TreeCalm_m (a0:TreeWorld) (a1:Int) (a2:Int):Option (TreeWorld) :=
 bd (impl_TreeWorldOk_m a0) fun x1 =>
(if (!x1) = true then
 some (⟨[],[],[],[],[],[]⟩:TreeWorld)
else
 bd (impl_copyTree_o00_03_04_05_m a0) fun x2 =>
 bd (lp (σ:=List TreeBridge × List TreeSlot × List TreeSlot × List TreeWord × Int) (β:=(Nat × Nat × Nat × Nat × (List TreeBridge) × (List TreeSlot) × (List TreeSlot) × (List TreeWord))) (fun s3 =>
(if (decide (s3.2.2.2.2<(if 60<(if 0 > a1 then 0 else a1) then 60 else (if 0 > a1 then 0 else a1)))) = true then
 bd (lp (σ:=List TreeBridge × List TreeSlot × List TreeSlot × List TreeWord) (β:=(Nat × Nat × Nat × Nat × (List TreeBridge) × (List TreeSlot) × (List TreeSlot) × (List TreeWord))) (fun s7 =>
(if (decide (((s7.2.2.2.length:Nat):Int) > 0)) = true then
 bd (impl_TreeWorld_onWord_k00_03_04_05_m ({ x2 with Bridges:=s7.1,AtA:=s7.2.1,AtB:=s7.2.2.1,Radio:=s7.2.2.2 }) 2 0) fun x11 =>
 some (.inl (x11.Bridges,x11.AtA,x11.AtB,x11.Radio))
else
 some (.inr (s7.1.length,s7.2.1.length,s7.2.2.1.length,s7.2.2.2.length,s7.1,s7.2.1,s7.2.2.1,s7.2.2.2)))) (s3.1,s3.2.1,s3.2.2.1,s3.2.2.2.1)) fun x10 =>
 bd (lp (σ:=List TreeBridge × List TreeSlot × List TreeSlot × List TreeWord × Int) (β:=(Nat × Nat × Nat × Nat × (List TreeBridge) × (List TreeSlot) × (List TreeSlot) × (List TreeWord))) (fun s13 =>
(if (decide (s13.2.2.2.2<((a0.Links.length:Nat):Int))) = true then
 gd ((((a0.Links.length:Nat):Int):Int) ≠ 0) <|
 gd ((((a0.Links.length:Nat):Int):Int) ≠ 0) <|
 bd (impl_TreeWorld_open_m ({ x2 with Bridges:=s13.1,AtA:=s13.2.1,AtB:=s13.2.2.1,Radio:=s13.2.2.2.1 }) ((IntKind.i64.wrap ((((if 0 > a2 then 0 else a2):Int).tmod ((a0.Links.length:Nat):Int))+s13.2.2.2.2):Int).tmod ((a0.Links.length:Nat):Int))) fun x19 =>
(if x19 = true then
 bd (impl_TreeWorld_told_m ({ x2 with Bridges:=s13.1,AtA:=s13.2.1,AtB:=s13.2.2.1,Radio:=s13.2.2.2.1 }) ((IntKind.i64.wrap ((((if 0 > a2 then 0 else a2):Int).tmod ((a0.Links.length:Nat):Int))+s13.2.2.2.2):Int).tmod ((a0.Links.length:Nat):Int)) 0) fun x20 =>
 bd (impl_TreeWorld_hear_r05_k03_04_05_m ({ x2 with Bridges:=s13.1,AtA:=s13.2.1,AtB:=s13.2.2.1,Radio:=s13.2.2.2.1 }) ((IntKind.i64.wrap ((((if 0 > a2 then 0 else a2):Int).tmod ((a0.Links.length:Nat):Int))+s13.2.2.2.2):Int).tmod ((a0.Links.length:Nat):Int)) 0 x20) fun x21 =>
 bd (impl_TreeWorld_told_m ({ x21 with Links:=x2.Links,Down:=x2.Down }) ((IntKind.i64.wrap ((((if 0 > a2 then 0 else a2):Int).tmod ((a0.Links.length:Nat):Int))+s13.2.2.2.2):Int).tmod ((a0.Links.length:Nat):Int)) 1) fun x22 =>
 bd (impl_TreeWorld_hear_r05_k03_04_05_m ({ x21 with Links:=x2.Links,Down:=x2.Down }) ((IntKind.i64.wrap ((((if 0 > a2 then 0 else a2):Int).tmod ((a0.Links.length:Nat):Int))+s13.2.2.2.2):Int).tmod ((a0.Links.length:Nat):Int)) 1 x22) fun x23 =>
 some (.inl (x23.Bridges,x23.AtA,x23.AtB,x23.Radio,IntKind.i64.wrap (s13.2.2.2.2+1)))
else
 some (.inl (s13.1,s13.2.1,s13.2.2.1,s13.2.2.2.1,IntKind.i64.wrap (s13.2.2.2.2+1))))
else
 some (.inr (s13.1.length,s13.2.1.length,s13.2.2.1.length,s13.2.2.2.1.length,s13.1,s13.2.1,s13.2.2.1,s13.2.2.2.1)))) (x10.2.2.2.2.1,x10.2.2.2.2.2.1,x10.2.2.2.2.2.2.1,x10.2.2.2.2.2.2.2,0)) fun x16 =>
 bd (impl_TreeWorld_tick_r05_k04_m ({ x2 with Bridges:=x16.2.2.2.2.1,AtA:=x16.2.2.2.2.2.1,AtB:=x16.2.2.2.2.2.2.1,Radio:=x16.2.2.2.2.2.2.2 })) fun x25 =>
 some (.inl (x25.Bridges,x25.AtA,x25.AtB,x25.Radio,IntKind.i64.wrap (s3.2.2.2.2+1)))
else
 some (.inr (s3.1.length,s3.2.1.length,s3.2.2.1.length,s3.2.2.2.1.length,s3.1,s3.2.1,s3.2.2.1,s3.2.2.2.1)))) (x2.Bridges,x2.AtA,x2.AtB,x2.Radio,0)) fun x6 =>
 some ({ x2 with Bridges:=x6.2.2.2.2.1,AtA:=x6.2.2.2.2.2.1,AtB:=x6.2.2.2.2.2.2.1,Radio:=x6.2.2.2.2.2.2.2 }))
theorem impl_TreeCalm_c {a0:TreeWorld} {a1:Int} {a2:Int} {r:TreeWorld} (h:impl_TreeCalm_m a0 a1 a2 = some r):EffC Try.prog 25 [.agg [.d (slD TreeBridge.enc a0.Bridges),.d (slD TreeLink.enc a0.Links),.d (slD encInt a0.Down),.d (slD TreeSlot.enc a0.AtA),.d (slD TreeSlot.enc a0.AtB),.d (slD TreeWord.enc a0.Radio)],.d (.int .i64 a1),.d (.int .i64 a2)] [] (.agg [.osl 5001 0 r.Bridges.length,.d (slD TreeLink.enc r.Links),.d (slD encInt r.Down),.osl 5002 0 r.AtA.length,.osl 5003 0 r.AtB.length,.osl 5004 0 r.Radio.length]) [(5001,.arr 43 6 r.Bridges.length (rows TreeBridge.enc r.Bridges)),(5002,.arr 107 4 r.AtA.length (rows TreeSlot.enc r.AtA)),(5003,.arr 107 4 r.AtB.length (rows TreeSlot.enc r.AtB)),(5004,.arr 76 5 r.Radio.length (rows TreeWord.enc r.Radio))]:=by
  refine effC_x tOk (fn:=Try.f25) (c:=codeOf Try.f25) rfl rfl ?_;unfold impl_TreeCalm_m at h;(conv=>whnf);refine seq_in tOk ?_;(conv=>whnf);obtain ⟨x1,hx1,h⟩:=bd_some h;refine cC 0 (impl_TreeWorldOk_c hx1) ?_;clear hx1;(conv=>whnf);refine andI h (fun _ h=>?_) (fun _ h=>?_)
  · (conv=>whnf);obtain rfl:=Option.some.inj h;exact lfE [.k [3],.p 5001 43 6 (rows TreeBridge.enc ([]:List TreeBridge)),.p 5002 107 4 (rows TreeSlot.enc ([]:List TreeSlot)),.p 5003 107 4 (rows TreeSlot.enc ([]:List TreeSlot)),.p 5004 76 5 (rows TreeWord.enc ([]:List TreeWord))]
  · (conv=>whnf);obtain ⟨x2,hx2,h⟩:=bd_some h;refine cE [] 1000 (impl_copyTree_o00_03_04_05_c hx2) ?_;(conv=>whnf);refine seq_in tOk ?_;(conv=>whnf);obtain ⟨x6,hx6,h⟩:=bd_some h;refine loop_m tOk hx6 (fun s3=>⟨0,56,[(2,.d (.int .i64 a2)),(6,.ref 6 0 0),(7,.ref 7 0 0),(8,.d (.int .i64 ((a0.Links.length:Nat):Int))),(22,.d (.int .i64 (if 60<(if 0 > a1 then 0 else a1) then 60 else (if 0 > a1 then 0 else a1)))),(23,.d (.int .i64 s3.2.2.2.2))],[],[(7,.box 29 [.osl 6001 0 s3.1.length,.d (slD TreeLink.enc x2.Links),.d (slD encInt x2.Down),.osl 6004 0 s3.2.1.length,.osl 6005 0 s3.2.2.1.length,.osl 6006 0 s3.2.2.2.1.length]),(6001,.arr 43 6 s3.1.length (rows TreeBridge.enc s3.1)),(6004,.arr 107 4 s3.2.1.length (rows TreeSlot.enc s3.2.1)),(6005,.arr 107 4 s3.2.2.1.length (rows TreeSlot.enc s3.2.2.1)),(6006,.arr 76 5 s3.2.2.2.1.length (rows TreeWord.enc s3.2.2.2.1)),(6,.box 29 [.d (.nil),.d (.nil),.d (.nil),.d (.nil),.d (.nil),.d (.nil)])],[⟨[],[]⟩]⟩) ?_ ?_
    · exact leX [.f [6002,6003]]
    · clear hx6;intro s3 y4 g5 hy4;(conv=>whnf);refine seq_in tOk ?_;(conv=>whnf);refine andI g5 (fun _ g5=>?_) (fun _ g5=>?_)
      · (conv=>whnf);refine seq_in tOk ?_;(conv=>whnf);refine seq_in tOk ?_;(conv=>whnf);obtain ⟨x10,hx10,g5⟩:=bd_some g5;refine loop_m tOk hx10 (fun s7=>⟨0,56,[(2,.d (.int .i64 a2)),(6,.ref 6 0 0),(7,.ref 7 0 0),(8,.d (.int .i64 ((a0.Links.length:Nat):Int))),(22,.d (.int .i64 (if 60<(if 0 > a1 then 0 else a1) then 60 else (if 0 > a1 then 0 else a1)))),(23,.d (.int .i64 s3.2.2.2.2))],[],[(7,.box 29 [.osl 6001 0 s7.1.length,.d (slD TreeLink.enc x2.Links),.d (slD encInt x2.Down),.osl 6004 0 s7.2.1.length,.osl 6005 0 s7.2.2.1.length,.osl 6006 0 s7.2.2.2.length]),(6001,.arr 43 6 s7.1.length (rows TreeBridge.enc s7.1)),(6004,.arr 107 4 s7.2.1.length (rows TreeSlot.enc s7.2.1)),(6005,.arr 107 4 s7.2.2.1.length (rows TreeSlot.enc s7.2.2.1)),(6006,.arr 76 5 s7.2.2.2.length (rows TreeWord.enc s7.2.2.2)),(6,.box 29 [.d (.nil),.d (.nil),.d (.nil),.d (.nil),.d (.nil),.d (.nil)])],[⟨[],[]⟩]⟩) ?_ ?_
        · exact leX []
        · clear hx10;intro s7 y8 g9 hy8;(conv=>whnf);refine seq_in tOk ?_;(conv=>whnf);refine andI g9 (fun _ g9=>?_) (fun _ g9=>?_)
          · (conv=>whnf);obtain ⟨x11,hx11,g9⟩:=bd_some g9;refine cE [(9000,7),(9001,6001),(9002,6004),(9003,6005),(9004,6006)] 2000 (impl_TreeWorld_onWord_k00_03_04_05_c hx11) ?_;(conv=>whnf);obtain rfl:=Option.some.inj g9;exact ⟨_,rfl,leX [.s [(6001,7001),(6004,7002),(6005,7003),(6006,7004),(7001,6001),(7002,6004),(7003,6005),(7004,6006)]]⟩
          · (conv=>whnf);obtain rfl:=Option.some.inj g9;obtain rfl:=hy8 _ rfl;refine seq_in tOk ?_;(conv=>whnf);obtain ⟨x16,hx16,g5⟩:=bd_some g5;refine loop_m tOk hx16 (fun s13=>⟨0,56,[(2,.d (.int .i64 a2)),(6,.ref 6 0 0),(7,.ref 7 0 0),(8,.d (.int .i64 ((a0.Links.length:Nat):Int))),(22,.d (.int .i64 (if 60<(if 0 > a1 then 0 else a1) then 60 else (if 0 > a1 then 0 else a1)))),(23,.d (.int .i64 s3.2.2.2.2)),(30,.d (.int .i64 ((a0.Links.length:Nat):Int))),(31,.d (.int .i64 s13.2.2.2.2))],[],[(7,.box 29 [.osl 6001 0 s13.1.length,.d (slD TreeLink.enc x2.Links),.d (slD encInt x2.Down),.osl 6004 0 s13.2.1.length,.osl 6005 0 s13.2.2.1.length,.osl 6006 0 s13.2.2.2.1.length]),(6001,.arr 43 6 s13.1.length (rows TreeBridge.enc s13.1)),(6004,.arr 107 4 s13.2.1.length (rows TreeSlot.enc s13.2.1)),(6005,.arr 107 4 s13.2.2.1.length (rows TreeSlot.enc s13.2.2.1)),(6006,.arr 76 5 s13.2.2.2.1.length (rows TreeWord.enc s13.2.2.2.1)),(6,.box 29 [.d (.nil),.d (.nil),.d (.nil),.d (.nil),.d (.nil),.d (.nil)])],[⟨[],[]⟩]⟩) ?_ ?_
            · exact leX []
            · clear hx16;intro s13 y14 g15 hy14;(conv=>whnf);refine seq_in tOk ?_;(conv=>whnf);refine andI g15 (fun _ g15=>?_) (fun _ g15=>?_)
              · (conv=>whnf);refine seq_in tOk ?_;(conv=>whnf);refine gdI g15 (fun g15=>?_);(conv=>whnf);refine gdI g15 (fun g15=>?_);(conv=>whnf);obtain ⟨x19,hx19,g15⟩:=bd_some g15;refine cC 0 (impl_TreeWorld_open_c hx19) ?_;clear hx19;(conv=>whnf);refine andI g15 (fun _ g15=>?_) (fun _ g15=>?_)
                · (conv=>whnf);obtain ⟨x20,hx20,g15⟩:=bd_some g15;refine cC 0 (impl_TreeWorld_told_c hx20) ?_;clear hx20;(conv=>whnf);obtain ⟨x21,hx21,g15⟩:=bd_some g15;refine cE [(9000,7),(9001,6001),(9002,6004),(9003,6005),(9004,6006)] 2000 (impl_TreeWorld_hear_r05_k03_04_05_c hx21) ?_;(conv=>whnf);obtain ⟨x22,hx22,g15⟩:=bd_some g15;refine cC 0 (impl_TreeWorld_told_c hx22) ?_;clear hx22;(conv=>whnf);obtain ⟨x23,hx23,g15⟩:=bd_some g15;refine cE [(9000,7),(9001,7001),(9002,7002),(9003,7003),(9004,7004)] 1000 (impl_TreeWorld_hear_r05_k03_04_05_c hx23) ?_;(conv=>whnf);obtain rfl:=Option.some.inj g15;exact ⟨_,rfl,leX [.s [(6002,6004),(6003,6005),(6004,6006),(6005,6003),(6006,6002)]]⟩
                · (conv=>whnf);obtain rfl:=Option.some.inj g15;exact ⟨_,rfl,leX []⟩
              · (conv=>whnf);obtain rfl:=Option.some.inj g15;obtain rfl:=hy14 _ rfl;obtain ⟨x25,hx25,g5⟩:=bd_some g5;refine cE [(9000,7),(9001,6001),(9002,6004),(9003,6005),(9004,6006)] 2000 (impl_TreeWorld_tick_r05_k04_c hx25) ?_;(conv=>whnf);obtain rfl:=Option.some.inj g5;exact ⟨_,rfl,leX [.s [(6001,7001),(6004,7002),(6005,7003),(6006,7004),(7001,6001),(7002,6004),(7003,6005),(7004,6006)]]⟩
      · (conv=>whnf);obtain rfl:=Option.some.inj g5;obtain rfl:=hy4 _ rfl;obtain rfl:=Option.some.inj h;exact lfE [.s [(5001,6001),(5002,6004),(5003,6005),(5004,6006),(6001,5001),(6004,5002),(6005,5003),(6006,5004)]]
noncomputable def laws_wtInts_m (a0:(List Int)) (a1:(List Int)):Option (Bool) :=
(if (((a0.length:Nat):Int) != ((a1.length:Nat):Int)) = true then
 some false
else
 bd (lp (σ:=Int) (β:=(Unit ⊕ Unit)) (fun s1 =>
(if (decide (s1<((a0.length:Nat):Int))) = true then
 gd ((0:Int)≤s1∧s1<((a0.length:Nat):Int)) <|
 gd ((0:Int)≤s1∧s1<((a1.length:Nat):Int)) <|
(if ((a0.getD s1.toNat default) != (a1.getD s1.toNat default)) = true then
 some (.inr (.inl ()))
else
 some (.inl (IntKind.i64.wrap (s1+1))))
else
 some (.inr (.inr ())))) 0) fun x4 =>
(match x4 with
| .inl d7 =>
 some false
| .inr d8 =>
 some true))
theorem laws_wtInts_c {a0:(List Int)} {a1:(List Int)} {r:Bool} (h:laws_wtInts_m a0 a1 = some r):PureC Try.prog 29 [.d (slD encInt a0),.d (slD encInt a1)] (.d (.bool r)) []:=by
  refine pureC_x tOk (fn:=Try.f29) (c:=codeOf Try.f29) rfl rfl ?_;unfold laws_wtInts_m at h;(conv=>whnf);refine seq_in tOk ?_;(conv=>whnf);refine andI h (fun _ h=>?_) (fun _ h=>?_)
  · (conv=>whnf);obtain rfl:=Option.some.inj h;exact lfP []
  · (conv=>whnf);refine seq_in tOk ?_;(conv=>whnf);obtain ⟨x4,hx4,h⟩:=bd_some h;refine loop_m tOk hx4 (fun s1=>⟨0,26,[(0,.d (slD encInt a0)),(1,.d (slD encInt a1)),(5,.d (.int .i64 s1))],[],[],[]⟩) ?_ ?_
    · exact leX []
    · clear hx4;intro s1 y2 g3 hy2;(conv=>whnf);refine seq_in tOk ?_;(conv=>whnf);refine andI g3 (fun _ g3=>?_) (fun _ g3=>?_)
      · (conv=>whnf);refine seq_in tOk ?_;(conv=>whnf);obtain ⟨g5,g3⟩:=gd_some g3;obtain ⟨g6,g3⟩:=gd_some g3;refine draw_u tOk [] 9 [] [0,0,3,7,0,0,48,112,255] [] ?_;(conv=>whnf);refine And.intro g5 ?_;clear g5;(conv=>whnf);refine And.intro g6 ?_;clear g6;(conv=>whnf);refine And.intro (by kernel_rfl) ?_;(conv=>whnf);refine andI g3 (fun _ g3=>?_) (fun _ g3=>?_)
        · (conv=>whnf);obtain rfl:=Option.some.inj g3;obtain rfl:=hy2 _ rfl;obtain rfl:=Option.some.inj h;exact lfP []
        · (conv=>whnf);obtain rfl:=Option.some.inj g3;exact ⟨_,rfl,leX []⟩
      · (conv=>whnf);obtain rfl:=Option.some.inj g3;obtain rfl:=hy2 _ rfl;obtain rfl:=Option.some.inj h;exact lfP []
noncomputable def laws_wtSlots_m (a0:(List TreeSlot)) (a1:(List TreeSlot)):Option (Bool) :=
(if (((a0.length:Nat):Int) != ((a1.length:Nat):Int)) = true then
 some false
else
 bd (lp (σ:=Int) (β:=(Unit ⊕ Unit)) (fun s1 =>
(if (decide (s1<((a0.length:Nat):Int))) = true then
 gd ((0:Int)≤s1∧s1<((a0.length:Nat):Int)) <|
 gd ((0:Int)≤s1∧s1<((a1.length:Nat):Int)) <|
(if (!((((((a0.getD s1.toNat default).Vector).Root) == (((a1.getD s1.toNat default).Vector).Root)) && (((((a0.getD s1.toNat default).Vector).Cost) == (((a1.getD s1.toNat default).Vector).Cost)) && (((((a0.getD s1.toNat default).Vector).Age) == (((a1.getD s1.toNat default).Vector).Age)) && true))) && ((((a0.getD s1.toNat default).Left) == ((a1.getD s1.toNat default).Left)) && true))) = true then
 some (.inr (.inl ()))
else
 some (.inl (IntKind.i64.wrap (s1+1))))
else
 some (.inr (.inr ())))) 0) fun x4 =>
(match x4 with
| .inl d7 =>
 some false
| .inr d8 =>
 some true))
theorem laws_wtSlots_c {a0:(List TreeSlot)} {a1:(List TreeSlot)} {r:Bool} (h:laws_wtSlots_m a0 a1 = some r):PureC Try.prog 50 [.d (slD TreeSlot.enc a0),.d (slD TreeSlot.enc a1)] (.d (.bool r)) []:=by
  refine pureC_x tOk (fn:=Try.f50) (c:=codeOf Try.f50) rfl rfl ?_;unfold laws_wtSlots_m at h;(conv=>whnf);refine seq_in tOk ?_;(conv=>whnf);refine andI h (fun _ h=>?_) (fun _ h=>?_)
  · (conv=>whnf);obtain rfl:=Option.some.inj h;exact lfP []
  · (conv=>whnf);refine seq_in tOk ?_;(conv=>whnf);obtain ⟨x4,hx4,h⟩:=bd_some h;refine loop_m tOk hx4 (fun s1=>⟨0,26,[(0,.d (slD TreeSlot.enc a0)),(1,.d (slD TreeSlot.enc a1)),(5,.d (.int .i64 s1))],[],[],[]⟩) ?_ ?_
    · exact leX []
    · clear hx4;intro s1 y2 g3 hy2;(conv=>whnf);refine seq_in tOk ?_;(conv=>whnf);refine andI g3 (fun _ g3=>?_) (fun _ g3=>?_)
      · (conv=>whnf);refine seq_in tOk ?_;(conv=>whnf);obtain ⟨g5,g3⟩:=gd_some g3;obtain ⟨g6,g3⟩:=gd_some g3;refine draw_u tOk [] 9 [] [0,0,3,7,0,0,48,112,255] [] ?_;(conv=>whnf);refine And.intro g5 ?_;clear g5;(conv=>whnf);refine And.intro g6 ?_;clear g6;(conv=>whnf);refine And.intro (by kernel_rfl) ?_;(conv=>whnf);refine andI g3 (fun _ g3=>?_) (fun _ g3=>?_)
        · (conv=>whnf);obtain rfl:=Option.some.inj g3;obtain rfl:=hy2 _ rfl;obtain rfl:=Option.some.inj h;exact lfP []
        · (conv=>whnf);obtain rfl:=Option.some.inj g3;exact ⟨_,rfl,leX []⟩
      · (conv=>whnf);obtain rfl:=Option.some.inj g3;obtain rfl:=hy2 _ rfl;obtain rfl:=Option.some.inj h;exact lfP []
noncomputable def laws_wtWorld_m (a0:TreeWorld) (a1:TreeWorld):Option (Bool) :=
 bd (gcall (((((a0.Bridges.length:Nat):Int) != ((a1.Bridges.length:Nat):Int)) || (((a0.Links.length:Nat):Int) != ((a1.Links.length:Nat):Int))) = false) (laws_wtInts_m a0.Down a1.Down)) fun x1 =>
 bd (gcall ((((((a0.Bridges.length:Nat):Int) != ((a1.Bridges.length:Nat):Int)) || (((a0.Links.length:Nat):Int) != ((a1.Links.length:Nat):Int))) || (!x1)) = false) (laws_wtSlots_m a0.AtA a1.AtA)) fun x2 =>
 bd (gcall (((((((a0.Bridges.length:Nat):Int) != ((a1.Bridges.length:Nat):Int)) || (((a0.Links.length:Nat):Int) != ((a1.Links.length:Nat):Int))) || (!x1)) || (!x2)) = false) (laws_wtSlots_m a0.AtB a1.AtB)) fun x3 =>
(if ((((((((a0.Bridges.length:Nat):Int) != ((a1.Bridges.length:Nat):Int)) || (((a0.Links.length:Nat):Int) != ((a1.Links.length:Nat):Int))) || (!x1)) || (!x2)) || (!x3)) || (((a0.Radio.length:Nat):Int) != ((a1.Radio.length:Nat):Int))) = true then
 some false
else
 bd (lp (σ:=Int) (β:=(Unit ⊕ Unit)) (fun s4 =>
(if (decide (s4<((a0.Bridges.length:Nat):Int))) = true then
 gd ((0:Int)≤s4∧s4<((a0.Bridges.length:Nat):Int)) <|
 gd ((0:Int)≤s4∧s4<((a1.Bridges.length:Nat):Int)) <|
(if (!((((a0.Bridges.getD s4.toNat default).Id) == ((a1.Bridges.getD s4.toNat default).Id)) && ((((a0.Bridges.getD s4.toNat default).Up) == ((a1.Bridges.getD s4.toNat default).Up)) && ((((((((a0.Bridges.getD s4.toNat default).Mind).Vector).Root) == ((((a1.Bridges.getD s4.toNat default).Mind).Vector).Root)) && ((((((a0.Bridges.getD s4.toNat default).Mind).Vector).Cost) == ((((a1.Bridges.getD s4.toNat default).Mind).Vector).Cost)) && ((((((a0.Bridges.getD s4.toNat default).Mind).Vector).Age) == ((((a1.Bridges.getD s4.toNat default).Mind).Vector).Age)) && true))) && (((((a0.Bridges.getD s4.toNat default).Mind).Link) == (((a1.Bridges.getD s4.toNat default).Mind).Link)) && true)) && true)))) = true then
 some (.inr (.inl ()))
else
 some (.inl (IntKind.i64.wrap (s4+1))))
else
 some (.inr (.inr ())))) 0) fun x7 =>
(match x7 with
| .inl d10 =>
 some false
| .inr d11 =>
 bd (lp (σ:=Int) (β:=(Unit ⊕ Unit)) (fun s12 =>
(if (decide (s12<((a0.Links.length:Nat):Int))) = true then
 gd ((0:Int)≤s12∧s12<((a0.Links.length:Nat):Int)) <|
 gd ((0:Int)≤s12∧s12<((a1.Links.length:Nat):Int)) <|
(if (!((((a0.Links.getD s12.toNat default).A) == ((a1.Links.getD s12.toNat default).A)) && ((((a0.Links.getD s12.toNat default).B) == ((a1.Links.getD s12.toNat default).B)) && ((((a0.Links.getD s12.toNat default).Cost) == ((a1.Links.getD s12.toNat default).Cost)) && true)))) = true then
 some (.inr (.inl ()))
else
 some (.inl (IntKind.i64.wrap (s12+1))))
else
 some (.inr (.inr ())))) 0) fun x15 =>
(match x15 with
| .inl d18 =>
 some false
| .inr d19 =>
 bd (lp (σ:=Int) (β:=(Unit ⊕ Unit)) (fun s20 =>
(if (decide (s20<((a0.Radio.length:Nat):Int))) = true then
 gd ((0:Int)≤s20∧s20<((a0.Radio.length:Nat):Int)) <|
 gd ((0:Int)≤s20∧s20<((a1.Radio.length:Nat):Int)) <|
(if (!((((a0.Radio.getD s20.toNat default).Link) == ((a1.Radio.getD s20.toNat default).Link)) && ((((a0.Radio.getD s20.toNat default).End) == ((a1.Radio.getD s20.toNat default).End)) && ((((((a0.Radio.getD s20.toNat default).Vector).Root) == (((a1.Radio.getD s20.toNat default).Vector).Root)) && (((((a0.Radio.getD s20.toNat default).Vector).Cost) == (((a1.Radio.getD s20.toNat default).Vector).Cost)) && (((((a0.Radio.getD s20.toNat default).Vector).Age) == (((a1.Radio.getD s20.toNat default).Vector).Age)) && true))) && true)))) = true then
 some (.inr (.inl ()))
else
 some (.inl (IntKind.i64.wrap (s20+1))))
else
 some (.inr (.inr ())))) 0) fun x23 =>
(match x23 with
| .inl d26 =>
 some false
| .inr d27 =>
 some true))))
theorem laws_wtWorld_c {a0:TreeWorld} {a1:TreeWorld} {r:Bool} (h:laws_wtWorld_m a0 a1 = some r):PureC Try.prog 20 [.agg [.d (slD TreeBridge.enc a0.Bridges),.d (slD TreeLink.enc a0.Links),.d (slD encInt a0.Down),.d (slD TreeSlot.enc a0.AtA),.d (slD TreeSlot.enc a0.AtB),.d (slD TreeWord.enc a0.Radio)],.agg [.d (slD TreeBridge.enc a1.Bridges),.d (slD TreeLink.enc a1.Links),.d (slD encInt a1.Down),.d (slD TreeSlot.enc a1.AtA),.d (slD TreeSlot.enc a1.AtB),.d (slD TreeWord.enc a1.Radio)]] (.d (.bool r)) []:=by
  refine pureC_x tOk (fn:=Try.f20) (c:=codeOf Try.f20) rfl rfl ?_;unfold laws_wtWorld_m at h;(conv=>whnf);refine seq_in tOk ?_;(conv=>whnf);obtain ⟨x1,hx1,h⟩:=bd_some h;refine callG_m rfl rfl rfl rfl rfl rfl (by intro c0; exact laws_wtInts_c (gcall_some hx1 c0)) ?_;(conv=>whnf);obtain ⟨x2,hx2,h⟩:=bd_some h;refine callG_m rfl rfl rfl rfl rfl rfl (by intro c0; exact laws_wtSlots_c (gcall_some hx2 c0)) ?_;(conv=>whnf);obtain ⟨x3,hx3,h⟩:=bd_some h;refine callG_m rfl rfl rfl rfl rfl rfl (by intro c0; exact laws_wtSlots_c (gcall_some hx3 c0)) ?_;(conv=>whnf);refine andI h (fun _ h=>?_) (fun _ h=>?_)
  · (conv=>whnf);obtain rfl:=Option.some.inj h;exact lfP []
  · (conv=>whnf);refine seq_in tOk ?_;(conv=>whnf);obtain ⟨x7,hx7,h⟩:=bd_some h;refine loop_m tOk hx7 (fun s4=>⟨0,111,[(2,.ref 2 0 0),(3,.ref 3 0 0),(5,.d (.int .i64 s4))],[],[(3,.box 29 [.d (slD TreeBridge.enc a1.Bridges),.d (slD TreeLink.enc a1.Links),.d (slD encInt a1.Down),.d (slD TreeSlot.enc a1.AtA),.d (slD TreeSlot.enc a1.AtB),.d (slD TreeWord.enc a1.Radio)]),(2,.box 29 [.d (slD TreeBridge.enc a0.Bridges),.d (slD TreeLink.enc a0.Links),.d (slD encInt a0.Down),.d (slD TreeSlot.enc a0.AtA),.d (slD TreeSlot.enc a0.AtB),.d (slD TreeWord.enc a0.Radio)])],[]⟩) ?_ ?_
    · exact leX []
    · clear hx7;intro s4 y5 g6 hy5;(conv=>whnf);refine seq_in tOk ?_;(conv=>whnf);refine andI g6 (fun _ g6=>?_) (fun _ g6=>?_)
      · (conv=>whnf);refine seq_in tOk ?_;(conv=>whnf);obtain ⟨g8,g6⟩:=gd_some g6;obtain ⟨g9,g6⟩:=gd_some g6;refine draw_u tOk [] 11 [] [0,1,0,7,15,0,32,0,224,480,1023] [] ?_;(conv=>whnf);refine And.intro g8 ?_;clear g8;(conv=>whnf);refine And.intro g9 ?_;clear g9;(conv=>whnf);refine And.intro (by kernel_rfl) ?_;(conv=>whnf);refine andI g6 (fun _ g6=>?_) (fun _ g6=>?_)
        · (conv=>whnf);obtain rfl:=Option.some.inj g6;obtain rfl:=hy5 _ rfl;obtain rfl:=Option.some.inj h;exact lfP []
        · (conv=>whnf);obtain rfl:=Option.some.inj g6;exact ⟨_,rfl,leX []⟩
      · (conv=>whnf);obtain rfl:=Option.some.inj g6;obtain rfl:=hy5 _ rfl;refine seq_in tOk ?_;(conv=>whnf);obtain ⟨x15,hx15,h⟩:=bd_some h;refine loop_m tOk hx15 (fun s12=>⟨0,111,[(2,.ref 2 0 0),(3,.ref 3 0 0),(6,.d (.int .i64 s12))],[],[(3,.box 29 [.d (slD TreeBridge.enc a1.Bridges),.d (slD TreeLink.enc a1.Links),.d (slD encInt a1.Down),.d (slD TreeSlot.enc a1.AtA),.d (slD TreeSlot.enc a1.AtB),.d (slD TreeWord.enc a1.Radio)]),(2,.box 29 [.d (slD TreeBridge.enc a0.Bridges),.d (slD TreeLink.enc a0.Links),.d (slD encInt a0.Down),.d (slD TreeSlot.enc a0.AtA),.d (slD TreeSlot.enc a0.AtB),.d (slD TreeWord.enc a0.Radio)])],[]⟩) ?_ ?_
        · exact leX []
        · clear hx15;intro s12 y13 g14 hy13;(conv=>whnf);refine seq_in tOk ?_;(conv=>whnf);refine andI g14 (fun _ g14=>?_) (fun _ g14=>?_)
          · (conv=>whnf);refine seq_in tOk ?_;(conv=>whnf);obtain ⟨g16,g14⟩:=gd_some g14;obtain ⟨g17,g14⟩:=gd_some g14;refine draw_u tOk [] 11 [] [0,1,0,7,15,0,32,0,224,480,1023] [] ?_;(conv=>whnf);refine And.intro g16 ?_;clear g16;(conv=>whnf);refine And.intro g17 ?_;clear g17;(conv=>whnf);refine And.intro (by kernel_rfl) ?_;(conv=>whnf);refine andI g14 (fun _ g14=>?_) (fun _ g14=>?_)
            · (conv=>whnf);obtain rfl:=Option.some.inj g14;obtain rfl:=hy13 _ rfl;obtain rfl:=Option.some.inj h;exact lfP []
            · (conv=>whnf);obtain rfl:=Option.some.inj g14;exact ⟨_,rfl,leX []⟩
          · (conv=>whnf);obtain rfl:=Option.some.inj g14;obtain rfl:=hy13 _ rfl;refine seq_in tOk ?_;(conv=>whnf);obtain ⟨x23,hx23,h⟩:=bd_some h;refine loop_m tOk hx23 (fun s20=>⟨0,111,[(2,.ref 2 0 0),(3,.ref 3 0 0),(7,.d (.int .i64 s20))],[],[(3,.box 29 [.d (slD TreeBridge.enc a1.Bridges),.d (slD TreeLink.enc a1.Links),.d (slD encInt a1.Down),.d (slD TreeSlot.enc a1.AtA),.d (slD TreeSlot.enc a1.AtB),.d (slD TreeWord.enc a1.Radio)]),(2,.box 29 [.d (slD TreeBridge.enc a0.Bridges),.d (slD TreeLink.enc a0.Links),.d (slD encInt a0.Down),.d (slD TreeSlot.enc a0.AtA),.d (slD TreeSlot.enc a0.AtB),.d (slD TreeWord.enc a0.Radio)])],[]⟩) ?_ ?_
            · exact leX []
            · clear hx23;intro s20 y21 g22 hy21;(conv=>whnf);refine seq_in tOk ?_;(conv=>whnf);refine andI g22 (fun _ g22=>?_) (fun _ g22=>?_)
              · (conv=>whnf);refine seq_in tOk ?_;(conv=>whnf);obtain ⟨g24,g22⟩:=gd_some g22;obtain ⟨g25,g22⟩:=gd_some g22;refine draw_u tOk [] 11 [] [0,1,0,7,15,0,32,0,224,480,1023] [] ?_;(conv=>whnf);refine And.intro g24 ?_;clear g24;(conv=>whnf);refine And.intro g25 ?_;clear g25;(conv=>whnf);refine And.intro (by kernel_rfl) ?_;(conv=>whnf);refine andI g22 (fun _ g22=>?_) (fun _ g22=>?_)
                · (conv=>whnf);obtain rfl:=Option.some.inj g22;obtain rfl:=hy21 _ rfl;obtain rfl:=Option.some.inj h;exact lfP []
                · (conv=>whnf);obtain rfl:=Option.some.inj g22;exact ⟨_,rfl,leX []⟩
              · (conv=>whnf);obtain rfl:=Option.some.inj g22;obtain rfl:=hy21 _ rfl;obtain rfl:=Option.some.inj h;exact lfP []
noncomputable def impl_TreeCalm_fz_m (a0:TreeWorld) (a1:Int) (a2:Int):Option (TreeWorld) :=
 bd (impl_TreeWorldOk_m a0) fun x1 =>
(if (!x1) = true then
 some (⟨[],[],[],[],[],[]⟩:TreeWorld)
else
 bd (impl_copyTree_o00_03_04_05_m a0) fun x2 =>
 bd (lp (σ:=List TreeBridge × List TreeSlot × List TreeSlot × List TreeWord × Int) (β:=(Nat × Nat × Nat × Nat × (List TreeBridge) × (List TreeSlot) × (List TreeSlot) × (List TreeWord))) (fun s3 =>
(if (decide (s3.2.2.2.2<(if 60<(if 0 > a1 then 0 else a1) then 60 else (if 0 > a1 then 0 else a1)))) = true then
 bd (lp (σ:=List TreeBridge × List TreeSlot × List TreeSlot × List TreeWord) (β:=(Nat × Nat × Nat × Nat × (List TreeBridge) × (List TreeSlot) × (List TreeSlot) × (List TreeWord))) (fun s7 =>
(if (decide (((s7.2.2.2.length:Nat):Int) > 0)) = true then
 bd (impl_TreeWorld_onWord_k00_03_04_05_m ({ x2 with Bridges:=s7.1,AtA:=s7.2.1,AtB:=s7.2.2.1,Radio:=s7.2.2.2 }) 2 0) fun x11 =>
 some (.inl (x11.Bridges,x11.AtA,x11.AtB,x11.Radio))
else
 some (.inr (s7.1.length,s7.2.1.length,s7.2.2.1.length,s7.2.2.2.length,s7.1,s7.2.1,s7.2.2.1,s7.2.2.2)))) (s3.1,s3.2.1,s3.2.2.1,s3.2.2.2.1)) fun x10 =>
 bd (lp (σ:=List TreeBridge × List TreeSlot × List TreeSlot × List TreeWord × Int) (β:=(Nat × Nat × Nat × Nat × (List TreeBridge) × (List TreeSlot) × (List TreeSlot) × (List TreeWord))) (fun s13 =>
(if (decide (s13.2.2.2.2<((a0.Links.length:Nat):Int))) = true then
 gd ((((a0.Links.length:Nat):Int):Int) ≠ 0) <|
 gd ((((a0.Links.length:Nat):Int):Int) ≠ 0) <|
 bd (impl_TreeWorld_open_m ({ x2 with Bridges:=s13.1,AtA:=s13.2.1,AtB:=s13.2.2.1,Radio:=s13.2.2.2.1 }) ((IntKind.i64.wrap ((((if 0 > a2 then 0 else a2):Int).tmod ((a0.Links.length:Nat):Int))+s13.2.2.2.2):Int).tmod ((a0.Links.length:Nat):Int))) fun x19 =>
(if x19 = true then
 bd (impl_TreeWorld_told_m ({ x2 with Bridges:=s13.1,AtA:=s13.2.1,AtB:=s13.2.2.1,Radio:=s13.2.2.2.1 }) ((IntKind.i64.wrap ((((if 0 > a2 then 0 else a2):Int).tmod ((a0.Links.length:Nat):Int))+s13.2.2.2.2):Int).tmod ((a0.Links.length:Nat):Int)) 0) fun x20 =>
 bd (impl_TreeWorld_hear_r05_k03_04_05_m ({ x2 with Bridges:=s13.1,AtA:=s13.2.1,AtB:=s13.2.2.1,Radio:=s13.2.2.2.1 }) ((IntKind.i64.wrap ((((if 0 > a2 then 0 else a2):Int).tmod ((a0.Links.length:Nat):Int))+s13.2.2.2.2):Int).tmod ((a0.Links.length:Nat):Int)) 0 x20) fun x21 =>
 bd (impl_TreeWorld_told_m ({ x21 with Links:=x2.Links,Down:=x2.Down }) ((IntKind.i64.wrap ((((if 0 > a2 then 0 else a2):Int).tmod ((a0.Links.length:Nat):Int))+s13.2.2.2.2):Int).tmod ((a0.Links.length:Nat):Int)) 1) fun x22 =>
 bd (impl_TreeWorld_hear_r05_k03_04_05_m ({ x21 with Links:=x2.Links,Down:=x2.Down }) ((IntKind.i64.wrap ((((if 0 > a2 then 0 else a2):Int).tmod ((a0.Links.length:Nat):Int))+s13.2.2.2.2):Int).tmod ((a0.Links.length:Nat):Int)) 1 x22) fun x23 =>
 some (.inl (x23.Bridges,x23.AtA,x23.AtB,x23.Radio,IntKind.i64.wrap (s13.2.2.2.2+1)))
else
 some (.inl (s13.1,s13.2.1,s13.2.2.1,s13.2.2.2.1,IntKind.i64.wrap (s13.2.2.2.2+1))))
else
 some (.inr (s13.1.length,s13.2.1.length,s13.2.2.1.length,s13.2.2.2.1.length,s13.1,s13.2.1,s13.2.2.1,s13.2.2.2.1)))) (x10.2.2.2.2.1,x10.2.2.2.2.2.1,x10.2.2.2.2.2.2.1,x10.2.2.2.2.2.2.2,0)) fun x16 =>
 bd (impl_TreeWorld_tick_r05_k04_m ({ x2 with Bridges:=x16.2.2.2.2.1,AtA:=x16.2.2.2.2.2.1,AtB:=x16.2.2.2.2.2.2.1,Radio:=x16.2.2.2.2.2.2.2 })) fun x25 =>
 some (.inl (x25.Bridges,x25.AtA,x25.AtB,x25.Radio,IntKind.i64.wrap (s3.2.2.2.2+1)))
else
 some (.inr (s3.1.length,s3.2.1.length,s3.2.2.1.length,s3.2.2.2.1.length,s3.1,s3.2.1,s3.2.2.1,s3.2.2.2.1)))) (x2.Bridges,x2.AtA,x2.AtB,x2.Radio,0)) fun x6 =>
 some ({ x2 with Bridges:=x6.2.2.2.2.1,AtA:=x6.2.2.2.2.2.1,AtB:=x6.2.2.2.2.2.2.1,Radio:=x6.2.2.2.2.2.2.2 }))
theorem impl_TreeCalm_fz_c {a0:TreeWorld} {a1:Int} {a2:Int} {r:TreeWorld} (h:impl_TreeCalm_fz_m a0 a1 a2 = some r):EffC Try.prog 25 [.agg [.d (slD TreeBridge.enc a0.Bridges),.d (slD TreeLink.enc a0.Links),.d (slD encInt a0.Down),.d (slD TreeSlot.enc a0.AtA),.d (slD TreeSlot.enc a0.AtB),.d (slD TreeWord.enc a0.Radio)],.d (.int .i64 a1),.d (.int .i64 a2)] [] (.agg [.d (slD TreeBridge.enc r.Bridges),.d (slD TreeLink.enc r.Links),.d (slD encInt r.Down),.d (slD TreeSlot.enc r.AtA),.d (slD TreeSlot.enc r.AtB),.d (slD TreeWord.enc r.Radio)]) []:=by
  refine effC_x tOk (fn:=Try.f25) (c:=codeOf Try.f25) rfl rfl ?_;unfold impl_TreeCalm_fz_m at h;(conv=>whnf);refine seq_in tOk ?_;(conv=>whnf);obtain ⟨x1,hx1,h⟩:=bd_some h;refine cC 0 (impl_TreeWorldOk_c hx1) ?_;clear hx1;(conv=>whnf);refine andI h (fun _ h=>?_) (fun _ h=>?_)
  · (conv=>whnf);obtain rfl:=Option.some.inj h;exact lfE []
  · (conv=>whnf);obtain ⟨x2,hx2,h⟩:=bd_some h;refine cE [] 1000 (impl_copyTree_o00_03_04_05_c hx2) ?_;(conv=>whnf);refine seq_in tOk ?_;(conv=>whnf);obtain ⟨x6,hx6,h⟩:=bd_some h;refine loop_m tOk hx6 (fun s3=>⟨0,56,[(2,.d (.int .i64 a2)),(6,.ref 6 0 0),(7,.ref 7 0 0),(8,.d (.int .i64 ((a0.Links.length:Nat):Int))),(22,.d (.int .i64 (if 60<(if 0 > a1 then 0 else a1) then 60 else (if 0 > a1 then 0 else a1)))),(23,.d (.int .i64 s3.2.2.2.2))],[],[(7,.box 29 [.osl 6001 0 s3.1.length,.d (slD TreeLink.enc x2.Links),.d (slD encInt x2.Down),.osl 6004 0 s3.2.1.length,.osl 6005 0 s3.2.2.1.length,.osl 6006 0 s3.2.2.2.1.length]),(6001,.arr 43 6 s3.1.length (rows TreeBridge.enc s3.1)),(6004,.arr 107 4 s3.2.1.length (rows TreeSlot.enc s3.2.1)),(6005,.arr 107 4 s3.2.2.1.length (rows TreeSlot.enc s3.2.2.1)),(6006,.arr 76 5 s3.2.2.2.1.length (rows TreeWord.enc s3.2.2.2.1)),(6,.box 29 [.d (.nil),.d (.nil),.d (.nil),.d (.nil),.d (.nil),.d (.nil)])],[⟨[],[]⟩]⟩) ?_ ?_
    · exact leX [.f [6002,6003]]
    · clear hx6;intro s3 y4 g5 hy4;(conv=>whnf);refine seq_in tOk ?_;(conv=>whnf);refine andI g5 (fun _ g5=>?_) (fun _ g5=>?_)
      · (conv=>whnf);refine seq_in tOk ?_;(conv=>whnf);refine seq_in tOk ?_;(conv=>whnf);obtain ⟨x10,hx10,g5⟩:=bd_some g5;refine loop_m tOk hx10 (fun s7=>⟨0,56,[(2,.d (.int .i64 a2)),(6,.ref 6 0 0),(7,.ref 7 0 0),(8,.d (.int .i64 ((a0.Links.length:Nat):Int))),(22,.d (.int .i64 (if 60<(if 0 > a1 then 0 else a1) then 60 else (if 0 > a1 then 0 else a1)))),(23,.d (.int .i64 s3.2.2.2.2))],[],[(7,.box 29 [.osl 6001 0 s7.1.length,.d (slD TreeLink.enc x2.Links),.d (slD encInt x2.Down),.osl 6004 0 s7.2.1.length,.osl 6005 0 s7.2.2.1.length,.osl 6006 0 s7.2.2.2.length]),(6001,.arr 43 6 s7.1.length (rows TreeBridge.enc s7.1)),(6004,.arr 107 4 s7.2.1.length (rows TreeSlot.enc s7.2.1)),(6005,.arr 107 4 s7.2.2.1.length (rows TreeSlot.enc s7.2.2.1)),(6006,.arr 76 5 s7.2.2.2.length (rows TreeWord.enc s7.2.2.2)),(6,.box 29 [.d (.nil),.d (.nil),.d (.nil),.d (.nil),.d (.nil),.d (.nil)])],[⟨[],[]⟩]⟩) ?_ ?_
        · exact leX []
        · clear hx10;intro s7 y8 g9 hy8;(conv=>whnf);refine seq_in tOk ?_;(conv=>whnf);refine andI g9 (fun _ g9=>?_) (fun _ g9=>?_)
          · (conv=>whnf);obtain ⟨x11,hx11,g9⟩:=bd_some g9;refine cE [(9000,7),(9001,6001),(9002,6004),(9003,6005),(9004,6006)] 2000 (impl_TreeWorld_onWord_k00_03_04_05_c hx11) ?_;(conv=>whnf);obtain rfl:=Option.some.inj g9;exact ⟨_,rfl,leX [.s [(6001,7001),(6004,7002),(6005,7003),(6006,7004),(7001,6001),(7002,6004),(7003,6005),(7004,6006)]]⟩
          · (conv=>whnf);obtain rfl:=Option.some.inj g9;obtain rfl:=hy8 _ rfl;refine seq_in tOk ?_;(conv=>whnf);obtain ⟨x16,hx16,g5⟩:=bd_some g5;refine loop_m tOk hx16 (fun s13=>⟨0,56,[(2,.d (.int .i64 a2)),(6,.ref 6 0 0),(7,.ref 7 0 0),(8,.d (.int .i64 ((a0.Links.length:Nat):Int))),(22,.d (.int .i64 (if 60<(if 0 > a1 then 0 else a1) then 60 else (if 0 > a1 then 0 else a1)))),(23,.d (.int .i64 s3.2.2.2.2)),(30,.d (.int .i64 ((a0.Links.length:Nat):Int))),(31,.d (.int .i64 s13.2.2.2.2))],[],[(7,.box 29 [.osl 6001 0 s13.1.length,.d (slD TreeLink.enc x2.Links),.d (slD encInt x2.Down),.osl 6004 0 s13.2.1.length,.osl 6005 0 s13.2.2.1.length,.osl 6006 0 s13.2.2.2.1.length]),(6001,.arr 43 6 s13.1.length (rows TreeBridge.enc s13.1)),(6004,.arr 107 4 s13.2.1.length (rows TreeSlot.enc s13.2.1)),(6005,.arr 107 4 s13.2.2.1.length (rows TreeSlot.enc s13.2.2.1)),(6006,.arr 76 5 s13.2.2.2.1.length (rows TreeWord.enc s13.2.2.2.1)),(6,.box 29 [.d (.nil),.d (.nil),.d (.nil),.d (.nil),.d (.nil),.d (.nil)])],[⟨[],[]⟩]⟩) ?_ ?_
            · exact leX []
            · clear hx16;intro s13 y14 g15 hy14;(conv=>whnf);refine seq_in tOk ?_;(conv=>whnf);refine andI g15 (fun _ g15=>?_) (fun _ g15=>?_)
              · (conv=>whnf);refine seq_in tOk ?_;(conv=>whnf);refine gdI g15 (fun g15=>?_);(conv=>whnf);refine gdI g15 (fun g15=>?_);(conv=>whnf);obtain ⟨x19,hx19,g15⟩:=bd_some g15;refine cC 0 (impl_TreeWorld_open_c hx19) ?_;clear hx19;(conv=>whnf);refine andI g15 (fun _ g15=>?_) (fun _ g15=>?_)
                · (conv=>whnf);obtain ⟨x20,hx20,g15⟩:=bd_some g15;refine cC 0 (impl_TreeWorld_told_c hx20) ?_;clear hx20;(conv=>whnf);obtain ⟨x21,hx21,g15⟩:=bd_some g15;refine cE [(9000,7),(9001,6001),(9002,6004),(9003,6005),(9004,6006)] 2000 (impl_TreeWorld_hear_r05_k03_04_05_c hx21) ?_;(conv=>whnf);obtain ⟨x22,hx22,g15⟩:=bd_some g15;refine cC 0 (impl_TreeWorld_told_c hx22) ?_;clear hx22;(conv=>whnf);obtain ⟨x23,hx23,g15⟩:=bd_some g15;refine cE [(9000,7),(9001,7001),(9002,7002),(9003,7003),(9004,7004)] 1000 (impl_TreeWorld_hear_r05_k03_04_05_c hx23) ?_;(conv=>whnf);obtain rfl:=Option.some.inj g15;exact ⟨_,rfl,leX [.s [(6002,6004),(6003,6005),(6004,6006),(6005,6003),(6006,6002)]]⟩
                · (conv=>whnf);obtain rfl:=Option.some.inj g15;exact ⟨_,rfl,leX []⟩
              · (conv=>whnf);obtain rfl:=Option.some.inj g15;obtain rfl:=hy14 _ rfl;obtain ⟨x25,hx25,g5⟩:=bd_some g5;refine cE [(9000,7),(9001,6001),(9002,6004),(9003,6005),(9004,6006)] 2000 (impl_TreeWorld_tick_r05_k04_c hx25) ?_;(conv=>whnf);obtain rfl:=Option.some.inj g5;exact ⟨_,rfl,leX [.s [(6001,7001),(6004,7002),(6005,7003),(6006,7004),(7001,6001),(7002,6004),(7003,6005),(7004,6006)]]⟩
      · (conv=>whnf);obtain rfl:=Option.some.inj g5;obtain rfl:=hy4 _ rfl;obtain rfl:=Option.some.inj h;exact lfE [.f [6001,6004,6005,6006]]
noncomputable def laws_FnTreeRounds_m (a0:(List Int)) (a1:(List Int)):Option (Bool) :=
(if ((decide (((a0.length:Nat):Int) > 1048576)) || (decide (((a1.length:Nat):Int) > 1048576))) = true then
 some true
else
 bd (spec_DrawTreeCalm_m a0) fun x1 =>
 gd ((5:Int) ≠ 0) <|
 gd ((5:Int) ≠ 0) <|
 bd (impl_TreeCalm_m x1.1 (IntKind.i64.wrap (((((a0.length:Nat):Int):Int).tmod 5)+((((a1.length:Nat):Int):Int).tmod 5))) x1.2.2) fun x4 =>
 bd (spec_TreeCalm_m x1.1 (IntKind.i64.wrap (((((a0.length:Nat):Int):Int).tmod 5)+((((a1.length:Nat):Int):Int).tmod 5))) x1.2.2) fun x5 =>
 bd (laws_wtWorld_m x4 x5) fun x6 =>
(if (!x6) = true then
 some false
else
 bd (spec_TreeWorldOk_m x1.1) fun x7 =>
(if (!x7) = true then
 bd (laws_wtWorld_m x4 (⟨[],[],[],[],[],[]⟩:TreeWorld)) fun x8 =>
 some x8
else
 bd (impl_TreeWorldOk_m x4) fun x9 =>
 bd (gcall (x9 = true) (impl_TreeCalm_fz_m x1.1 ((((a0.length:Nat):Int):Int).tmod 5) x1.2.2)) fun x10 =>
 bd (gcall (x9 = true) (impl_TreeCalm_fz_m x10 ((((a1.length:Nat):Int):Int).tmod 5) x1.2.2)) fun x11 =>
 bd (gcall (x9 = true) (laws_wtWorld_m x4 x11)) fun x12 =>
 some (x9 && x12))))
theorem laws_FnTreeRounds_c {a0:(List Int)} {a1:(List Int)} {r:Bool} (h:laws_FnTreeRounds_m a0 a1 = some r):PureC Try.prog 5 [.d (slD encByte a0),.d (slD encByte a1)] (.d (.bool r)) []:=by
  refine pureC_x tOk (fn:=Try.f5) (c:=codeOf Try.f5) rfl rfl ?_;unfold laws_FnTreeRounds_m at h;(conv=>whnf);refine seq_in tOk ?_;(conv=>whnf);refine andI h (fun _ h=>?_) (fun _ h=>?_)
  · (conv=>whnf);obtain rfl:=Option.some.inj h;exact lfP []
  · (conv=>whnf);obtain ⟨x1,hx1,h⟩:=bd_some h;refine cE [] 1000 (spec_DrawTreeCalm_c hx1) ?_;(conv=>whnf);refine gdI h (fun h=>?_);(conv=>whnf);refine gdI h (fun h=>?_);(conv=>whnf);obtain ⟨x4,hx4,h⟩:=bd_some h;refine callFz [6001] ?_;(conv=>whnf);refine cE [] 1000 (impl_TreeCalm_c hx4) ?_;(conv=>whnf);refine seq_in tOk ?_;(conv=>whnf);obtain ⟨x5,hx5,h⟩:=bd_some h;obtain ⟨x6,hx6,h⟩:=bd_some h;refine draw_u tOk [.u 6 2000 (.agg [.osl 5001 0 x5.Bridges.length,.osl 5002 0 x5.Links.length,.osl 5003 0 x5.Down.length,.osl 5004 0 x5.AtA.length,.osl 5005 0 x5.AtB.length,.osl 5006 0 x5.Radio.length]) [⟨5001,43,6,x5.Bridges.length,rows TreeBridge.enc x5.Bridges⟩,⟨5002,46,3,x5.Links.length,rows TreeLink.enc x5.Links⟩,⟨5003,3,1,x5.Down.length,rows encInt x5.Down⟩,⟨5004,107,4,x5.AtA.length,rows TreeSlot.enc x5.AtA⟩,⟨5005,107,4,x5.AtB.length,rows TreeSlot.enc x5.AtB⟩,⟨5006,76,5,x5.Radio.length,rows TreeWord.enc x5.Radio⟩],.u 7 0 (.d (.bool x6)) []] 9 [] [0,0,0,0,12,0,62,127,255] [] ?_;(conv=>whnf);refine And.intro (callD_any (spec_TreeCalm_c hx5) (by kernel_rfl)) ?_;(conv=>whnf);refine And.intro (callD_any (laws_wtWorld_c hx6) (by kernel_rfl)) ?_;(conv=>whnf);refine And.intro (by kernel_rfl) ?_;(conv=>whnf);refine andI h (fun _ h=>?_) (fun _ h=>?_)
    · (conv=>whnf);obtain rfl:=Option.some.inj h;exact lfP []
    · (conv=>whnf);refine seq_in tOk ?_;(conv=>whnf);obtain ⟨x7,hx7,h⟩:=bd_some h;refine cC 0 (spec_TreeWorldOk_c hx7) ?_;clear hx7;(conv=>whnf);refine andI h (fun _ h=>?_) (fun _ h=>?_)
      · (conv=>whnf);obtain ⟨x8,hx8,h⟩:=bd_some h;refine callW (args1:=[.agg [.d (slD TreeBridge.enc x4.Bridges),.d (slD TreeLink.enc x4.Links),.d (slD encInt x4.Down),.d (slD TreeSlot.enc x4.AtA),.d (slD TreeSlot.enc x4.AtB),.d (slD TreeWord.enc x4.Radio)],.agg [.d (.nil),.d (.nil),.d (.nil),.d (.nil),.d (.nil),.d (.nil)]]) 0 (laws_wtWorld_c hx8) (by kernel_rfl) argA (by kernel_rfl) ?_;(conv=>whnf);obtain rfl:=Option.some.inj h;exact lfP []
      · (conv=>whnf);obtain ⟨x9,hx9,h⟩:=bd_some h;obtain ⟨x10,hx10,h⟩:=bd_some h;obtain ⟨x11,hx11,h⟩:=bd_some h;obtain ⟨x12,hx12,h⟩:=bd_some h;refine draw_t tOk [.u 1 0 (.d (.bool x9)) [],.e 7 [] (.agg [.d (slD TreeBridge.enc x10.Bridges),.d (slD TreeLink.enc x10.Links),.d (slD encInt x10.Down),.d (slD TreeSlot.enc x10.AtA),.d (slD TreeSlot.enc x10.AtB),.d (slD TreeWord.enc x10.Radio)]) [] [],.e 10 [] (.agg [.d (slD TreeBridge.enc x11.Bridges),.d (slD TreeLink.enc x11.Links),.d (slD encInt x11.Down),.d (slD TreeSlot.enc x11.AtA),.d (slD TreeSlot.enc x11.AtB),.d (slD TreeWord.enc x11.Radio)]) [] [],.u 11 0 (.d (.bool x12)) []] 14 [] [0,1,3,7,7,7,7,119,7,7,1015,2047,4095,8191] [] [] ?_;(conv=>whnf);refine And.intro (callD_any (impl_TreeWorldOk_c hx9) (by kernel_rfl)) ?_;(conv=>whnf);refine And.intro (And.intro ⟨⟨Try.f25,rfl,rfl,rfl⟩⟩ (And.intro (by intro c0; exact eD [] 0 (impl_TreeCalm_fz_c (gcall_some hx10 c0))) (condN_of inA))) ?_;(conv=>whnf);refine And.intro (And.intro ⟨⟨Try.f25,rfl,rfl,rfl⟩⟩ (And.intro (by intro c0; exact eD [] 0 (impl_TreeCalm_fz_c (gcall_some hx11 c0))) (condN_of inA))) ?_;(conv=>whnf);refine And.intro (callDG_if rfl rfl rfl rfl (by intro c0; exact laws_wtWorld_c (gcall_some hx12 c0))) ?_;(conv=>whnf);refine And.intro (by kernel_rfl) ?_;(conv=>whnf);obtain rfl:=Option.some.inj h;exact lfP []
end Go.Proofs.Ytfgmolljcgnafaa
