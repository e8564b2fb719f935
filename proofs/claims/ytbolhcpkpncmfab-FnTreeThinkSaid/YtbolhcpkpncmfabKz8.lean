/-
  What some of the program's functions compute: their models, and that the functions compute these; no condition.
-/
import Derived.Test.YtbolhcpkpncmfabTyz
import Derived.Test.YtbolhcpkpncmfabTbz
import Derived.Test.YtbolhcpkpncmfabKz7
set_option linter.all false
namespace Go.Proofs.Ytbolhcpkpncmfab
open Go Go.Ab
set_option maxRecDepth 100000
set_option maxHeartbeats 4000000
noncomputable def impl_TreeWorld_slot_m (a0:TreeWorld) (a1:Int) (a2:Int):Option (TreeSlot) :=
(if (a2 == 0) = true then
 gd ((0:Int)≤a1∧a1<((a0.AtA.length:Nat):Int)) <|
 some (⟨((a0.AtA.getD a1.toNat default).Vector),(a0.AtA.getD a1.toNat default).Left⟩:TreeSlot)
else
 gd ((0:Int)≤a1∧a1<((a0.AtB.length:Nat):Int)) <|
 some (⟨((a0.AtB.getD a1.toNat default).Vector),(a0.AtB.getD a1.toNat default).Left⟩:TreeSlot))
theorem impl_TreeWorld_slot_c {a0:TreeWorld} {a1:Int} {a2:Int} {r:TreeSlot} (h:impl_TreeWorld_slot_m a0 a1 a2 = some r):EffC Try.prog 117 [.rp [slD TreeBridge.enc a0.Bridges,slD TreeLink.enc a0.Links,slD encInt a0.Down,slD TreeSlot.enc a0.AtA,slD TreeSlot.enc a0.AtB,slD TreeWord.enc a0.Radio],.d (.int .i64 a1),.d (.int .i64 a2)] [] (.rp [.int .i64 r.Vector.Root,.int .i64 r.Vector.Cost,.int .i64 r.Vector.Age,.int .i64 r.Left]) []:=by
  refine effC_m tOk (fn:=Try.f117) (c:=codeOf Try.f117) rfl rfl (by kernel_rfl) rfl rfl rfl rfl ?_;unfold impl_TreeWorld_slot_m at h;(conv=>whnf);refine seq_in tOk ?_;(conv=>whnf);refine And.intro (fun e=>?_) (fun e=>?_)
  · replace h:=ite_t h e; clear e;(conv=>whnf);obtain ⟨g1,h⟩:=gd_some h;refine And.intro g1 ?_;clear g1;(conv=>whnf);obtain rfl:=Option.some.inj h;refine ⟨⟨0,21,[(6,.rp [.int .i64 (((a0.AtA.getD a1.toNat default).Vector).Root),.int .i64 (((a0.AtA.getD a1.toNat default).Vector).Cost),.int .i64 (((a0.AtA.getD a1.toNat default).Vector).Age),.int .i64 ((a0.AtA.getD a1.toNat default).Left)])],[],[],[⟨[],[]⟩]⟩,?_,And.intro rfl (And.intro ?_ ?_)⟩
    · refine le_mk ?_ ?_ ?_ <;> exact leA
    · exact inA
    · exact inA
  · replace h:=ite_f h e; clear e;(conv=>whnf);obtain ⟨g2,h⟩:=gd_some h;refine And.intro g2 ?_;clear g2;(conv=>whnf);obtain rfl:=Option.some.inj h;refine ⟨⟨0,21,[(6,.rp [.int .i64 (((a0.AtB.getD a1.toNat default).Vector).Root),.int .i64 (((a0.AtB.getD a1.toNat default).Vector).Cost),.int .i64 (((a0.AtB.getD a1.toNat default).Vector).Age),.int .i64 ((a0.AtB.getD a1.toNat default).Left)])],[],[],[⟨[],[]⟩]⟩,?_,And.intro rfl (And.intro ?_ ?_)⟩
    · refine le_mk ?_ ?_ ?_ <;> exact leA
    · exact inA
    · exact inA
noncomputable def slices_Index_int_int_m (a0:(List Int)) (a1:Int):Option (Int) :=
 bd (lp (σ:=Int) (β:=(Int ⊕ Unit)) (fun s1 =>
(if (decide (s1<((a0.length:Nat):Int))) = true then
 gd ((0:Int)≤s1∧s1<((a0.length:Nat):Int)) <|
(if (a1 == (a0.getD s1.toNat default)) = true then
 some (.inr (.inl s1))
else
 some (.inl (IntKind.i64.wrap (s1+1))))
else
 some (.inr (.inr ())))) 0) fun x4 =>
(match x4 with
| .inl d6 =>
 some d6
| .inr d7 =>
 some (-1))
theorem slices_Index_int_int_c {a0:(List Int)} {a1:Int} {r:Int} (h:slices_Index_int_int_m a0 a1 = some r):PureC Try.prog 166 [.d (slD encInt a0),.d (.int .i64 a1)] (.d (.int .i64 r)) []:=by
  refine pureC_m tOk (fn:=Try.f166) (c:=codeOf Try.f166) rfl rfl (by kernel_rfl) rfl rfl (by simp) (by simp) (ids_of rfl) ?_;unfold slices_Index_int_int_m at h;(conv=>whnf);refine seq_in tOk ?_;(conv=>whnf);obtain ⟨x4,hx4,h⟩:=bd_some h;refine loop_m tOk hx4 (fun s1=>⟨0,19,[(0,.d (slD encInt a0)),(1,.d (.int .i64 a1)),(7,.d (.int .i64 ((a0.length:Nat):Int))),(8,.d (.int .i64 s1))],[],[],[]⟩) ?_ ?_
  · refine le_mk ?_ ?_ ?_ <;> exact leA
  · clear hx4;intro s1 y2 g3 hy2;(conv=>whnf);refine seq_in tOk ?_;(conv=>whnf);refine And.intro (fun e=>?_) (fun e=>?_)
    · replace g3:=ite_t g3 e; clear e;(conv=>whnf);refine seq_in tOk ?_;(conv=>whnf);obtain ⟨g5,g3⟩:=gd_some g3;refine And.intro g5 ?_;clear g5;(conv=>whnf);refine And.intro (fun e=>?_) (fun e=>?_)
      · replace g3:=ite_t g3 e; clear e;(conv=>whnf);obtain rfl:=Option.some.inj g3;obtain rfl:=hy2 _ rfl;obtain rfl:=Option.some.inj h;exact ⟨_,LE.refl _,And.intro rfl trivial⟩
      · replace g3:=ite_f g3 e; clear e;(conv=>whnf);obtain rfl:=Option.some.inj g3;refine ⟨_,rfl,le_mk ?_ ?_ ?_⟩ <;> exact leA
    · replace g3:=ite_f g3 e; clear e;(conv=>whnf);obtain rfl:=Option.some.inj g3;obtain rfl:=hy2 _ rfl;obtain rfl:=Option.some.inj h;exact ⟨_,LE.refl _,And.intro rfl trivial⟩
noncomputable def slices_Contains_int_int_m (a0:(List Int)) (a1:Int):Option (Bool) :=
 bd (slices_Index_int_int_m a0 a1) fun x1 =>
 some (decide (x1 ≥ 0))
theorem slices_Contains_int_int_c {a0:(List Int)} {a1:Int} {r:Bool} (h:slices_Contains_int_int_m a0 a1 = some r):PureC Try.prog 156 [.d (slD encInt a0),.d (.int .i64 a1)] (.d (.bool r)) []:=by
  refine pureC_m tOk (fn:=Try.f156) (c:=codeOf Try.f156) rfl rfl (by kernel_rfl) rfl rfl (by simp) (by simp) (ids_of rfl) ?_;unfold slices_Contains_int_int_m at h;(conv=>whnf);obtain ⟨x1,hx1,h⟩:=bd_some h;refine callC 0 (slices_Index_int_int_c hx1) (by kernel_rfl) (by kernel_rfl) ?_;clear hx1;(conv=>whnf);obtain rfl:=Option.some.inj h;exact ⟨_,LE.refl _,And.intro rfl trivial⟩
noncomputable def impl_TreeWorld_isDown_m (a0:TreeWorld) (a1:Int):Option (Bool) :=
 bd (slices_Contains_int_int_m a0.Down a1) fun x1 =>
 some x1
theorem impl_TreeWorld_isDown_c {a0:TreeWorld} {a1:Int} {r:Bool} (h:impl_TreeWorld_isDown_m a0 a1 = some r):PureC Try.prog 124 [.rp [slD TreeBridge.enc a0.Bridges,slD TreeLink.enc a0.Links,slD encInt a0.Down,slD TreeSlot.enc a0.AtA,slD TreeSlot.enc a0.AtB,slD TreeWord.enc a0.Radio],.d (.int .i64 a1)] (.d (.bool r)) []:=by
  refine pureC_m tOk (fn:=Try.f124) (c:=codeOf Try.f124) rfl rfl (by kernel_rfl) rfl rfl (by simp) (by simp) (ids_of rfl) ?_;unfold impl_TreeWorld_isDown_m at h;(conv=>whnf);obtain ⟨x1,hx1,h⟩:=bd_some h;refine callC 0 (slices_Contains_int_int_c hx1) (by kernel_rfl) (by kernel_rfl) ?_;clear hx1;(conv=>whnf);obtain rfl:=Option.some.inj h;exact ⟨_,LE.refl _,And.intro rfl trivial⟩
noncomputable def impl_TreeWorld_bridgeAt_m (a0:TreeWorld) (a1:Int) (a2:Int):Option (Int) :=
(if (a2 == 0) = true then
 gd ((0:Int)≤a1∧a1<((a0.Links.length:Nat):Int)) <|
 some ((a0.Links.getD a1.toNat default).A)
else
 gd ((0:Int)≤a1∧a1<((a0.Links.length:Nat):Int)) <|
 some ((a0.Links.getD a1.toNat default).B))
theorem impl_TreeWorld_bridgeAt_c {a0:TreeWorld} {a1:Int} {a2:Int} {r:Int} (h:impl_TreeWorld_bridgeAt_m a0 a1 a2 = some r):PureC Try.prog 57 [.rp [slD TreeBridge.enc a0.Bridges,slD TreeLink.enc a0.Links,slD encInt a0.Down,slD TreeSlot.enc a0.AtA,slD TreeSlot.enc a0.AtB,slD TreeWord.enc a0.Radio],.d (.int .i64 a1),.d (.int .i64 a2)] (.d (.int .i64 r)) []:=by
  refine pureC_m tOk (fn:=Try.f57) (c:=codeOf Try.f57) rfl rfl (by kernel_rfl) rfl rfl (by simp) (by simp) (ids_of rfl) ?_;unfold impl_TreeWorld_bridgeAt_m at h;(conv=>whnf);refine seq_in tOk ?_;(conv=>whnf);refine And.intro (fun e=>?_) (fun e=>?_)
  · replace h:=ite_t h e; clear e;(conv=>whnf);obtain ⟨g1,h⟩:=gd_some h;refine And.intro g1 ?_;clear g1;(conv=>whnf);obtain rfl:=Option.some.inj h;exact ⟨_,LE.refl _,And.intro rfl trivial⟩
  · replace h:=ite_f h e; clear e;(conv=>whnf);obtain ⟨g2,h⟩:=gd_some h;refine And.intro g2 ?_;clear g2;(conv=>whnf);obtain rfl:=Option.some.inj h;exact ⟨_,LE.refl _,And.intro rfl trivial⟩
noncomputable def impl_TreeWorld_slotOk_m (a0:TreeWorld) (a1:Int) (a2:Int):Option (Bool) :=
 bd (impl_TreeWorld_slot_m a0 a1 a2) fun x1 =>
 bd (impl_TreeVectorOk_m x1.Vector) fun x2 =>
 bd (gcall ((!x2) = false) (impl_within_m x1.Left 0 3)) fun x3 =>
 bd (gcall (((!x2) || (!x3)) = false) (impl_TreeVector_nothing_m x1.Vector)) fun x4 =>
(if (((!x2) || (!x3)) || (!((x1.Left == 0) == x4))) = true then
 some false
else
 bd (impl_TreeVector_nothing_m x1.Vector) fun x5 =>
 bd (gcall (x5 = false) (impl_TreeWorld_isDown_m a0 a1)) fun x6 =>
 bd (gcall ((!x6) = true∧x5 = false) (impl_TreeWorld_bridgeAt_m a0 a1 a2)) fun x7 =>
 gd ((!x6) = true → (x5 = false → ((0:Int)≤x7∧x7<((a0.Bridges.length:Nat):Int)))) <|
 some (x5 || ((!x6) && (a0.Bridges.getD x7.toNat default).Up)))
theorem impl_TreeWorld_slotOk_c {a0:TreeWorld} {a1:Int} {a2:Int} {r:Bool} (h:impl_TreeWorld_slotOk_m a0 a1 a2 = some r):PureC Try.prog 77 [.rp [slD TreeBridge.enc a0.Bridges,slD TreeLink.enc a0.Links,slD encInt a0.Down,slD TreeSlot.enc a0.AtA,slD TreeSlot.enc a0.AtB,slD TreeWord.enc a0.Radio],.d (.int .i64 a1),.d (.int .i64 a2)] (.d (.bool r)) []:=by
  refine pureC_m tOk (fn:=Try.f77) (c:=codeOf Try.f77) rfl rfl (by kernel_rfl) rfl rfl (by simp) (by simp) (ids_of rfl) ?_;unfold impl_TreeWorld_slotOk_m at h;(conv=>whnf);obtain ⟨x1,hx1,h⟩:=bd_some h;refine callE [] 0 (impl_TreeWorld_slot_c hx1) argA inA rfl rfl ?_;(conv=>whnf);refine seq_in tOk ?_;(conv=>whnf);obtain ⟨x2,hx2,h⟩:=bd_some h;obtain ⟨x3,hx3,h⟩:=bd_some h;obtain ⟨x4,hx4,h⟩:=bd_some h;refine draw_k tOk (by kernel_rfl) (fun j=>match j with | 2=>some (.pure 0 (.d (.bool x2)) []) | 7=>some (.pure 0 (.d (.bool x3)) []) | 16=>some (.pure 0 (.d (.bool x4)) []) | _=>none) 19 [] [[],[true],[true,true],[true,true,true],[true,true,true,true],[true,true,true,true,true],[true,true,true,true,true,true],[true,true,true,true,true,true,true],[true,true,true,true,true,true,true,true],[true,true,true,true,true,true,true,true,true],[true,true,true,true,true,true,true,true,true,true],[true,true,true,true,true,true,true,true,true,true,true],[true,true,true,true,true,true,true,true,true,true,true,true],[true,true,true,true,true,true,true,true,true,true,true,true,true],[true,true,true,true,true,true,true,true,true,true,true],[true,true,true,true,true,true,true,true,true,true,true,false,false,false,true],[true,true,true,true,true,true,true,true,true,true,true,false,false,false,true,true],[true,true,true,true,true,true,true,true,true,true,true,true,true,true,true,true,true],[true,true,true,true,true,true,true,true,true,true,true,true,true,true,true,true,true,true]] [] (by decide) (by kernel_rfl) (by kernel_rfl) ?_;(conv=>whnf);refine And.intro (callD_any (impl_TreeVectorOk_c hx2) (by kernel_rfl)) ?_;(conv=>whnf);refine And.intro (callDG_if rfl rfl rfl rfl (by intro c0; exact impl_within_c (gcall_some hx3 c0))) ?_;(conv=>whnf);refine And.intro (callDG_if rfl rfl rfl rfl (by intro c0; exact impl_TreeVector_nothing_c (gcall_some hx4 c0))) ?_;(conv=>whnf);refine And.intro (by kernel_rfl) ?_;(conv=>whnf);refine And.intro (fun e=>?_) (fun e=>?_)
  · replace h:=ite_t h e; clear e;(conv=>whnf);obtain rfl:=Option.some.inj h;exact ⟨_,LE.refl _,And.intro rfl trivial⟩
  · replace h:=ite_f h e; clear e;(conv=>whnf);obtain ⟨x5,hx5,h⟩:=bd_some h;obtain ⟨x6,hx6,h⟩:=bd_some h;obtain ⟨x7,hx7,h⟩:=bd_some h;obtain ⟨g8,h⟩:=gd_some h;refine draw_k tOk (by kernel_rfl) (fun j=>match j with | 2=>some (.pure 0 (.d (.bool x5)) []) | 6=>some (.pure 0 (.d (.bool x6)) []) | 16=>some (.pure 0 (.d (.int .i64 x7)) []) | _=>none) 23 [] [[],[true],[true,true],[true,true,true],[true,true,true,true],[true,true,true,true],[true,true,true,true,true,true],[true,true,true,true,true,true,true],[true,true,true,true,true,true,true,true],[true,true,true,true,true,true,true,true,true],[true,true,true,true,true,true,true,true,true,true],[true,true,true,true,true,true,true,true,true,true,true],[true,true,true,true,true,true,true,true,true,true,true,true],[true,true,true,true,true,true,true,true,true],[true,true,true,true,true,true,true,true,true],[true,true,true,true,true,true,true,true,true],[true,true,true,true,true,true,true,true,true,false,false,false,false,true,true,true],[true,true,true,true,true,true,true,true,true,true,true,true,true,true,true,true,true],[true,true,true,true,true,true,true,true,true,true,true,true,true,true,true,true,true,true],[true,true,true,true,true,true,true,true,true,true,true,true,true,true,true,true,true,true,true],[true,true,true,true,true,true,true,true,true,true,true,true,true,true,true,true,true,true,true,true],[true,true,true,true,true,true,true,true,true,true,true,true,true,true,true,true,true,true,true,true,true],[true,true,true,true,true,true,true,true,true,true,true,true,true,true,true,true,true,true,true,true,true,true]] [] (by decide) (by kernel_rfl) (by kernel_rfl) ?_;(conv=>whnf);refine And.intro (callD_any (impl_TreeVector_nothing_c hx5) (by kernel_rfl)) ?_;(conv=>whnf);refine And.intro (callDG_if rfl rfl rfl rfl (by intro c0; exact impl_TreeWorld_isDown_c (gcall_some hx6 c0))) ?_;(conv=>whnf);refine And.intro (callDG_if rfl rfl rfl rfl (by intro c0 c1; exact impl_TreeWorld_bridgeAt_c (gcall_some hx7 ⟨c0,c1⟩))) ?_;(conv=>whnf);refine And.intro g8 ?_;clear g8;(conv=>whnf);refine And.intro (by kernel_rfl) ?_;(conv=>whnf);obtain rfl:=Option.some.inj h;exact ⟨_,LE.refl _,And.intro rfl trivial⟩
noncomputable def impl_TreeWorldOk_1_m (a0:TreeWord) (a1:TreeWorld):Option (Bool) :=
 bd (impl_TreeWorld_isLink_m a1 a0.Link) fun x1 =>
 bd (gcall ((!x1) = false) (impl_within_m a0.End 0 1)) fun x2 =>
 bd (gcall (((!x1) || (!x2)) = false) (impl_TreeVectorOk_m a0.Vector)) fun x3 =>
 bd (gcall ((((!x1) || (!x2)) || (!x3)) = false) (impl_TreeVector_nothing_m a0.Vector)) fun x4 =>
 some ((((!x1) || (!x2)) || (!x3)) || x4)
theorem impl_TreeWorldOk_1_c {a0:TreeWord} {a1:TreeWorld} {r:Bool} (h:impl_TreeWorldOk_1_m a0 a1 = some r):PureC Try.prog 79 [.agg [.d (.int .i64 a0.Link),.d (.int .i64 a0.End),.d (.int .i64 a0.Vector.Root),.d (.int .i64 a0.Vector.Cost),.d (.int .i64 a0.Vector.Age)],.rp [slD TreeBridge.enc a1.Bridges,slD TreeLink.enc a1.Links,slD encInt a1.Down,slD TreeSlot.enc a1.AtA,slD TreeSlot.enc a1.AtB,slD TreeWord.enc a1.Radio]] (.d (.bool r)) []:=by
  refine pureC_m tOk (fn:=Try.f79) (c:=codeOf Try.f79) rfl rfl (by kernel_rfl) rfl rfl (by simp) (by simp) (ids_of rfl) ?_;unfold impl_TreeWorldOk_1_m at h;(conv=>whnf);obtain ⟨x1,hx1,h⟩:=bd_some h;refine callC 0 (impl_TreeWorld_isLink_c hx1) (by kernel_rfl) (by kernel_rfl) ?_;clear hx1;(conv=>whnf);obtain ⟨x2,hx2,h⟩:=bd_some h;refine callG_m rfl rfl rfl rfl rfl rfl (by intro c0; exact impl_within_c (gcall_some hx2 c0)) ?_;(conv=>whnf);obtain ⟨x3,hx3,h⟩:=bd_some h;refine callG_m rfl rfl rfl rfl rfl rfl (by intro c0; exact impl_TreeVectorOk_c (gcall_some hx3 c0)) ?_;(conv=>whnf);obtain ⟨x4,hx4,h⟩:=bd_some h;refine callG_m rfl rfl rfl rfl rfl rfl (by intro c0; exact impl_TreeVector_nothing_c (gcall_some hx4 c0)) ?_;(conv=>whnf);obtain rfl:=Option.some.inj h;exact ⟨_,LE.refl _,And.intro rfl trivial⟩
noncomputable def slices_IndexFunc_TreeWord_TreeWord_impl_TreeWorldOk_1_m (a0:(List TreeWord)) (a1c0:TreeWorld):Option (Int) :=
 bd (lp (σ:=Int) (β:=(Int ⊕ Unit)) (fun s1 =>
(if (decide (s1<((a0.length:Nat):Int))) = true then
 gd ((0:Int)≤s1∧s1<((a0.length:Nat):Int)) <|
 bd (impl_TreeWorldOk_1_m ({ (a0.getD s1.toNat default) with Vector:=((a0.getD s1.toNat default).Vector) }) a1c0) fun x6 =>
(if x6 = true then
 some (.inr (.inl s1))
else
 some (.inl (IntKind.i64.wrap (s1+1))))
else
 some (.inr (.inr ())))) 0) fun x4 =>
(match x4 with
| .inl d7 =>
 some d7
| .inr d8 =>
 some (-1))
theorem slices_IndexFunc_TreeWord_TreeWord_impl_TreeWorldOk_1_c {a0:(List TreeWord)} {a1c0:TreeWorld} {r:Int} (h:slices_IndexFunc_TreeWord_TreeWord_impl_TreeWorldOk_1_m a0 a1c0 = some r):PureC Try.prog 125 [.d (slD TreeWord.enc a0),.fn 79 [.rp [slD TreeBridge.enc a1c0.Bridges,slD TreeLink.enc a1c0.Links,slD encInt a1c0.Down,slD TreeSlot.enc a1c0.AtA,slD TreeSlot.enc a1c0.AtB,slD TreeWord.enc a1c0.Radio]]] (.d (.int .i64 r)) []:=by
  refine pureC_m tOk (fn:=Try.f125) (c:=codeOf Try.f125) rfl rfl (by kernel_rfl) rfl rfl (by simp) (by simp) (ids_of rfl) ?_;unfold slices_IndexFunc_TreeWord_TreeWord_impl_TreeWorldOk_1_m at h;(conv=>whnf);refine seq_in tOk ?_;(conv=>whnf);obtain ⟨x4,hx4,h⟩:=bd_some h;refine loop_m tOk hx4 (fun s1=>⟨0,19,[(0,.d (slD TreeWord.enc a0)),(1,.fn 79 [.rp [slD TreeBridge.enc a1c0.Bridges,slD TreeLink.enc a1c0.Links,slD encInt a1c0.Down,slD TreeSlot.enc a1c0.AtA,slD TreeSlot.enc a1c0.AtB,slD TreeWord.enc a1c0.Radio]]),(7,.d (.int .i64 ((a0.length:Nat):Int))),(8,.d (.int .i64 s1))],[],[],[]⟩) ?_ ?_
  · refine le_mk ?_ ?_ ?_ <;> exact leA
  · clear hx4;intro s1 y2 g3 hy2;(conv=>whnf);refine seq_in tOk ?_;(conv=>whnf);refine And.intro (fun e=>?_) (fun e=>?_)
    · replace g3:=ite_t g3 e; clear e;(conv=>whnf);refine seq_in tOk ?_;(conv=>whnf);obtain ⟨g5,g3⟩:=gd_some g3;refine And.intro g5 ?_;clear g5;(conv=>whnf);obtain ⟨x6,hx6,g3⟩:=bd_some g3;refine callC 0 (impl_TreeWorldOk_1_c hx6) (by kernel_rfl) (by kernel_rfl) ?_;clear hx6;(conv=>whnf);refine And.intro (fun e=>?_) (fun e=>?_)
      · replace g3:=ite_t g3 e; clear e;(conv=>whnf);obtain rfl:=Option.some.inj g3;obtain rfl:=hy2 _ rfl;obtain rfl:=Option.some.inj h;exact ⟨_,LE.refl _,And.intro rfl trivial⟩
      · replace g3:=ite_f g3 e; clear e;(conv=>whnf);obtain rfl:=Option.some.inj g3;refine ⟨_,rfl,le_mk ?_ ?_ ?_⟩ <;> exact leA
    · replace g3:=ite_f g3 e; clear e;(conv=>whnf);obtain rfl:=Option.some.inj g3;obtain rfl:=hy2 _ rfl;obtain rfl:=Option.some.inj h;exact ⟨_,LE.refl _,And.intro rfl trivial⟩
noncomputable def slices_ContainsFunc_TreeWord_TreeWord_impl_TreeWorldOk_1_m (a0:(List TreeWord)) (a1c0:TreeWorld):Option (Bool) :=
 bd (slices_IndexFunc_TreeWord_TreeWord_impl_TreeWorldOk_1_m a0 a1c0) fun x1 =>
 some (decide (x1 ≥ 0))
theorem slices_ContainsFunc_TreeWord_TreeWord_impl_TreeWorldOk_1_c {a0:(List TreeWord)} {a1c0:TreeWorld} {r:Bool} (h:slices_ContainsFunc_TreeWord_TreeWord_impl_TreeWorldOk_1_m a0 a1c0 = some r):PureC Try.prog 78 [.d (slD TreeWord.enc a0),.fn 79 [.rp [slD TreeBridge.enc a1c0.Bridges,slD TreeLink.enc a1c0.Links,slD encInt a1c0.Down,slD TreeSlot.enc a1c0.AtA,slD TreeSlot.enc a1c0.AtB,slD TreeWord.enc a1c0.Radio]]] (.d (.bool r)) []:=by
  refine pureC_m tOk (fn:=Try.f78) (c:=codeOf Try.f78) rfl rfl (by kernel_rfl) rfl rfl (by simp) (by simp) (ids_of rfl) ?_;unfold slices_ContainsFunc_TreeWord_TreeWord_impl_TreeWorldOk_1_m at h;(conv=>whnf);obtain ⟨x1,hx1,h⟩:=bd_some h;refine callC 0 (slices_IndexFunc_TreeWord_TreeWord_impl_TreeWorldOk_1_c hx1) (by kernel_rfl) (by kernel_rfl) ?_;clear hx1;(conv=>whnf);obtain rfl:=Option.some.inj h;exact ⟨_,LE.refl _,And.intro rfl trivial⟩
noncomputable def impl_TreeWorldOk_m (a0:TreeWorld):Option (Bool) :=
 bd (impl_TreeLinksOk_m ((a0.Bridges.length:Nat):Int) a0.Links) fun x1 =>
 bd (gcall ((!x1) = false) (impl_TreeWorld_bridgesOk_m a0)) fun x2 =>
(if (((((!x1) || (!x2)) || (((a0.AtA.length:Nat):Int) != ((a0.Links.length:Nat):Int))) || (((a0.AtB.length:Nat):Int) != ((a0.Links.length:Nat):Int))) || (decide (((a0.Radio.length:Nat):Int) > 12))) = true then
 some false
else
 bd (lp (σ:=Int) (β:=(Unit ⊕ Unit)) (fun s3 =>
(if (decide (s3<((a0.Down.length:Nat):Int))) = true then
 gd ((0:Int)≤s3∧s3<((a0.Down.length:Nat):Int)) <|
 bd (impl_TreeWorld_isLink_m a0 (a0.Down.getD s3.toNat default)) fun x8 =>
 gd ((decide (s3 > 0)) = true → ((!x8) = false → ((0:Int)≤IntKind.i64.wrap (s3 - 1)∧IntKind.i64.wrap (s3 - 1)<((a0.Down.length:Nat):Int)))) <|
(if ((!x8) || ((decide (s3 > 0)) && (decide ((a0.Down.getD ((IntKind.i64.wrap (s3 - 1)).toNat) default) ≥ (a0.Down.getD s3.toNat default))))) = true then
 some (.inr (.inl ()))
else
 some (.inl (IntKind.i64.wrap (s3+1))))
else
 some (.inr (.inr ())))) 0) fun x6 =>
(match x6 with
| .inl d10 =>
 some false
| .inr d11 =>
 bd (lp (σ:=Int) (β:=(Unit ⊕ Unit)) (fun s12 =>
(if (decide (s12<((a0.Links.length:Nat):Int))) = true then
 bd (impl_TreeWorld_slotOk_m a0 s12 0) fun x16 =>
 bd (gcall ((!x16) = false) (impl_TreeWorld_slotOk_m a0 s12 1)) fun x17 =>
(if ((!x16) || (!x17)) = true then
 some (.inr (.inl ()))
else
 some (.inl (IntKind.i64.wrap (s12+1))))
else
 some (.inr (.inr ())))) 0) fun x15 =>
(match x15 with
| .inl d18 =>
 some false
| .inr d19 =>
 bd (slices_ContainsFunc_TreeWord_TreeWord_impl_TreeWorldOk_1_m a0.Radio a0) fun x20 =>
 some (!x20))))
theorem impl_TreeWorldOk_c {a0:TreeWorld} {r:Bool} (h:impl_TreeWorldOk_m a0 = some r):PureC Try.prog 26 [.agg [.d (slD TreeBridge.enc a0.Bridges),.d (slD TreeLink.enc a0.Links),.d (slD encInt a0.Down),.d (slD TreeSlot.enc a0.AtA),.d (slD TreeSlot.enc a0.AtB),.d (slD TreeWord.enc a0.Radio)]] (.d (.bool r)) []:=by
  refine pureC_m tOk (fn:=Try.f26) (c:=codeOf Try.f26) rfl rfl (by kernel_rfl) rfl rfl (by simp) (by simp) (ids_of rfl) ?_;unfold impl_TreeWorldOk_m at h;(conv=>whnf);refine seq_in tOk ?_;(conv=>whnf);obtain ⟨x1,hx1,h⟩:=bd_some h;refine callC 0 (impl_TreeLinksOk_c hx1) (by kernel_rfl) (by kernel_rfl) ?_;clear hx1;(conv=>whnf);obtain ⟨x2,hx2,h⟩:=bd_some h;refine callG_m rfl rfl rfl rfl rfl rfl (by intro c0; exact impl_TreeWorld_bridgesOk_c (gcall_some hx2 c0)) ?_;(conv=>whnf);refine And.intro (fun e=>?_) (fun e=>?_)
  · replace h:=ite_t h e; clear e;(conv=>whnf);obtain rfl:=Option.some.inj h;exact ⟨_,LE.refl _,And.intro rfl trivial⟩
  · replace h:=ite_f h e; clear e;(conv=>whnf);refine seq_in tOk ?_;(conv=>whnf);obtain ⟨x6,hx6,h⟩:=bd_some h;refine loop_m tOk hx6 (fun s3=>⟨0,87,[(1,.ref 1 0 0),(42,.d (slD encInt a0.Down)),(43,.d (.int .i64 ((a0.Down.length:Nat):Int))),(44,.d (.int .i64 s3))],[],[(1,.box 36 [.d (slD TreeBridge.enc a0.Bridges),.d (slD TreeLink.enc a0.Links),.d (slD encInt a0.Down),.d (slD TreeSlot.enc a0.AtA),.d (slD TreeSlot.enc a0.AtB),.d (slD TreeWord.enc a0.Radio)])],[]⟩) ?_ ?_
    · refine le_mk ?_ ?_ ?_ <;> exact leA
    · clear hx6;intro s3 y4 g5 hy4;(conv=>whnf);refine seq_in tOk ?_;(conv=>whnf);refine And.intro (fun e=>?_) (fun e=>?_)
      · replace g5:=ite_t g5 e; clear e;(conv=>whnf);refine seq_in tOk ?_;(conv=>whnf);obtain ⟨g7,g5⟩:=gd_some g5;refine And.intro g7 ?_;clear g7;(conv=>whnf);obtain ⟨x8,hx8,g5⟩:=bd_some g5;refine callC 0 (impl_TreeWorld_isLink_c hx8) (by kernel_rfl) (by kernel_rfl) ?_;clear hx8;(conv=>whnf);obtain ⟨g9,g5⟩:=gd_some g5;refine And.intro g9 ?_;clear g9;(conv=>whnf);refine And.intro (fun e=>?_) (fun e=>?_)
        · replace g5:=ite_t g5 e; clear e;(conv=>whnf);obtain rfl:=Option.some.inj g5;obtain rfl:=hy4 _ rfl;obtain rfl:=Option.some.inj h;exact ⟨_,LE.refl _,And.intro rfl trivial⟩
        · replace g5:=ite_f g5 e; clear e;(conv=>whnf);obtain rfl:=Option.some.inj g5;refine ⟨_,rfl,le_mk ?_ ?_ ?_⟩ <;> exact leA
      · replace g5:=ite_f g5 e; clear e;(conv=>whnf);obtain rfl:=Option.some.inj g5;obtain rfl:=hy4 _ rfl;refine seq_in tOk ?_;(conv=>whnf);obtain ⟨x15,hx15,h⟩:=bd_some h;refine loop_m tOk hx15 (fun s12=>⟨0,87,[(1,.ref 1 0 0),(69,.d (.int .i64 ((a0.Links.length:Nat):Int))),(70,.d (.int .i64 s12))],[],[(1,.box 36 [.d (slD TreeBridge.enc a0.Bridges),.d (slD TreeLink.enc a0.Links),.d (slD encInt a0.Down),.d (slD TreeSlot.enc a0.AtA),.d (slD TreeSlot.enc a0.AtB),.d (slD TreeWord.enc a0.Radio)])],[]⟩) ?_ ?_
        · refine le_mk ?_ ?_ ?_ <;> exact leA
        · clear hx15;intro s12 y13 g14 hy13;(conv=>whnf);refine seq_in tOk ?_;(conv=>whnf);refine And.intro (fun e=>?_) (fun e=>?_)
          · replace g14:=ite_t g14 e; clear e;(conv=>whnf);refine seq_in tOk ?_;(conv=>whnf);obtain ⟨x16,hx16,g14⟩:=bd_some g14;refine callC 0 (impl_TreeWorld_slotOk_c hx16) (by kernel_rfl) (by kernel_rfl) ?_;clear hx16;(conv=>whnf);obtain ⟨x17,hx17,g14⟩:=bd_some g14;refine callG_m rfl rfl rfl rfl rfl rfl (by intro c0; exact impl_TreeWorld_slotOk_c (gcall_some hx17 c0)) ?_;(conv=>whnf);refine And.intro (fun e=>?_) (fun e=>?_)
            · replace g14:=ite_t g14 e; clear e;(conv=>whnf);obtain rfl:=Option.some.inj g14;obtain rfl:=hy13 _ rfl;obtain rfl:=Option.some.inj h;exact ⟨_,LE.refl _,And.intro rfl trivial⟩
            · replace g14:=ite_f g14 e; clear e;(conv=>whnf);obtain rfl:=Option.some.inj g14;refine ⟨_,rfl,le_mk ?_ ?_ ?_⟩ <;> exact leA
          · replace g14:=ite_f g14 e; clear e;(conv=>whnf);obtain rfl:=Option.some.inj g14;obtain rfl:=hy13 _ rfl;obtain ⟨x20,hx20,h⟩:=bd_some h;refine callC 0 (slices_ContainsFunc_TreeWord_TreeWord_impl_TreeWorldOk_1_c hx20) (by kernel_rfl) (by kernel_rfl) ?_;clear hx20;(conv=>whnf);obtain rfl:=Option.some.inj h;exact ⟨_,LE.refl _,And.intro rfl trivial⟩
noncomputable def impl_TreeWorld_isUp_m (a0:TreeWorld) (a1:Int):Option (Bool) :=
 bd (impl_within_m a1 0 (IntKind.i64.wrap (((a0.Bridges.length:Nat):Int) - 1))) fun x1 =>
 gd (x1 = true → ((0:Int)≤a1∧a1<((a0.Bridges.length:Nat):Int))) <|
 some (x1 && (a0.Bridges.getD a1.toNat default).Up)
theorem impl_TreeWorld_isUp_c {a0:TreeWorld} {a1:Int} {r:Bool} (h:impl_TreeWorld_isUp_m a0 a1 = some r):PureC Try.prog 55 [.rp [slD TreeBridge.enc a0.Bridges,slD TreeLink.enc a0.Links,slD encInt a0.Down,slD TreeSlot.enc a0.AtA,slD TreeSlot.enc a0.AtB,slD TreeWord.enc a0.Radio],.d (.int .i64 a1)] (.d (.bool r)) []:=by
  refine pureC_m tOk (fn:=Try.f55) (c:=codeOf Try.f55) rfl rfl (by kernel_rfl) rfl rfl (by simp) (by simp) (ids_of rfl) ?_;unfold impl_TreeWorld_isUp_m at h;(conv=>whnf);obtain ⟨x1,hx1,h⟩:=bd_some h;refine callC 0 (impl_within_c hx1) (by kernel_rfl) (by kernel_rfl) ?_;clear hx1;(conv=>whnf);obtain ⟨g2,h⟩:=gd_some h;refine And.intro g2 ?_;clear g2;(conv=>whnf);obtain rfl:=Option.some.inj h;exact ⟨_,LE.refl _,And.intro rfl trivial⟩
noncomputable def impl_selfMind_m (a0:Int):Option (TreeMind) :=
 some (⟨(⟨a0,0,0⟩:TreeVector),-1⟩:TreeMind)
theorem impl_selfMind_c {a0:Int} {r:TreeMind} (h:impl_selfMind_m a0 = some r):PureC Try.prog 116 [.d (.int .i64 a0)] (.agg [.d (.int .i64 r.Vector.Root),.d (.int .i64 r.Vector.Cost),.d (.int .i64 r.Vector.Age),.d (.int .i64 r.Link)]) []:=by
  refine pureC_m tOk (fn:=Try.f116) (c:=codeOf Try.f116) rfl rfl (by kernel_rfl) rfl rfl (by simp) (by simp) (ids_of rfl) ?_;unfold impl_selfMind_m at h;(conv=>whnf);obtain rfl:=Option.some.inj h;exact ⟨_,LE.refl _,And.intro rfl trivial⟩
noncomputable def impl_TreeVector_compare_m (a0:TreeVector) (a1:TreeVector):Option (Int) :=
(if (a0.Root != a1.Root) = true then
 some (IntKind.i64.wrap (a0.Root - a1.Root))
else
 some (IntKind.i64.wrap (a0.Cost - a1.Cost)))
theorem impl_TreeVector_compare_c {a0:TreeVector} {a1:TreeVector} {r:Int} (h:impl_TreeVector_compare_m a0 a1 = some r):PureC Try.prog 118 [.agg [.d (.int .i64 a0.Root),.d (.int .i64 a0.Cost),.d (.int .i64 a0.Age)],.agg [.d (.int .i64 a1.Root),.d (.int .i64 a1.Cost),.d (.int .i64 a1.Age)]] (.d (.int .i64 r)) []:=by
  refine pureC_m tOk (fn:=Try.f118) (c:=codeOf Try.f118) rfl rfl (by kernel_rfl) rfl rfl (by simp) (by simp) (ids_of rfl) ?_;unfold impl_TreeVector_compare_m at h;(conv=>whnf);refine seq_in tOk ?_;(conv=>whnf);refine And.intro (fun e=>?_) (fun e=>?_)
  · replace h:=ite_t h e; clear e;(conv=>whnf);obtain rfl:=Option.some.inj h;exact ⟨_,LE.refl _,And.intro rfl trivial⟩
  · replace h:=ite_f h e; clear e;(conv=>whnf);obtain rfl:=Option.some.inj h;exact ⟨_,LE.refl _,And.intro rfl trivial⟩
noncomputable def impl_TreeWorld_think_m (a0:TreeWorld) (a1:Int):Option (TreeMind) :=
 gd ((0:Int)≤a1∧a1<((a0.Bridges.length:Nat):Int)) <|
 bd (impl_selfMind_m ((a0.Bridges.getD a1.toNat default).Id)) fun x2 =>
 bd (lp (σ:=Int × Int × Int × Int × Int × Int) (β:=(Int × Int × Int × Int)) (fun s3 =>
(if (decide (s3.2.2.2.2.1<((a0.Links.length:Nat):Int))) = true then
 gd ((0:Int)≤s3.2.2.2.2.1∧s3.2.2.2.2.1<((a0.Links.length:Nat):Int)) <|
 bd (lp (σ:=Int × Int × Int × Int × Int × Int) (β:=(Int × Int × Int × Int × Int)) (fun s8 =>
(if (decide (s8.2.2.2.2.1<2)) = true then
 bd (impl_TreeWorld_slot_m a0 s3.2.2.2.2.1 s8.2.2.2.2.1) fun x12 =>
 bd (impl_TreeWorld_bridgeAt_m a0 s3.2.2.2.2.1 s8.2.2.2.2.1) fun x13 =>
 bd (gcall ((x13 != a1) = false) (impl_TreeVector_nothing_m x12.Vector)) fun x14 =>
(if ((((x13 != a1) || x14) || (decide (x12.Vector.Age ≥ 10))) || (decide ((IntKind.i64.wrap (x12.Vector.Cost+((a0.Links.getD s3.2.2.2.2.1.toNat default).Cost))) > 1000))) = true then
 some (.inl (s8.1,s8.2.1,s8.2.2.1,s8.2.2.2.1,IntKind.i64.wrap (s8.2.2.2.2.1+1),s8.2.2.2.2.2))
else
 bd (impl_TreeWorld_bridgeAt_m a0 s3.2.2.2.2.1 (IntKind.i64.wrap (1 - s8.2.2.2.2.1))) fun x15 =>
 gd ((0:Int)≤x15∧x15<((a0.Bridges.length:Nat):Int)) <|
 bd (impl_TreeVector_compare_m (⟨x12.Vector.Root,IntKind.i64.wrap (x12.Vector.Cost+((a0.Links.getD s3.2.2.2.2.1.toNat default).Cost)),IntKind.i64.wrap (x12.Vector.Age+1)⟩:TreeVector) (⟨s8.1,s8.2.1,s8.2.2.1⟩:TreeVector)) fun x17 =>
(if ((decide (x17<0)) || ((x17 == 0) && (decide (((a0.Bridges.getD x15.toNat default).Id)<s8.2.2.2.2.2)))) = true then
 some (.inl (x12.Vector.Root,IntKind.i64.wrap (x12.Vector.Cost+((a0.Links.getD s3.2.2.2.2.1.toNat default).Cost)),IntKind.i64.wrap (x12.Vector.Age+1),s3.2.2.2.2.1,IntKind.i64.wrap (s8.2.2.2.2.1+1),(a0.Bridges.getD x15.toNat default).Id))
else
 some (.inl (s8.1,s8.2.1,s8.2.2.1,s8.2.2.2.1,IntKind.i64.wrap (s8.2.2.2.2.1+1),s8.2.2.2.2.2))))
else
 some (.inr (s8.2.2.2.2.2,s8.1,s8.2.1,s8.2.2.1,s8.2.2.2.1)))) (s3.1,s3.2.1,s3.2.2.1,s3.2.2.2.1,0,s3.2.2.2.2.2)) fun x11 =>
 some (.inl (x11.2.1,x11.2.2.1,x11.2.2.2.1,x11.2.2.2.2,IntKind.i64.wrap (s3.2.2.2.2.1+1),x11.1))
else
 some (.inr (s3.1,s3.2.1,s3.2.2.1,s3.2.2.2.1)))) (x2.Vector.Root,x2.Vector.Cost,x2.Vector.Age,x2.Link,0,0)) fun x6 =>
 some (⟨(⟨x6.1,x6.2.1,x6.2.2.1⟩:TreeVector),x6.2.2.2⟩:TreeMind)
theorem impl_TreeWorld_think_c {a0:TreeWorld} {a1:Int} {r:TreeMind} (h:impl_TreeWorld_think_m a0 a1 = some r):PureC Try.prog 72 [.rp [slD TreeBridge.enc a0.Bridges,slD TreeLink.enc a0.Links,slD encInt a0.Down,slD TreeSlot.enc a0.AtA,slD TreeSlot.enc a0.AtB,slD TreeWord.enc a0.Radio],.d (.int .i64 a1)] (.agg [.d (.int .i64 r.Vector.Root),.d (.int .i64 r.Vector.Cost),.d (.int .i64 r.Vector.Age),.d (.int .i64 r.Link)]) []:=by
  refine pureC_m tOk (fn:=Try.f72) (c:=codeOf Try.f72) rfl rfl (by kernel_rfl) rfl rfl (by simp) (by simp) (ids_of rfl) ?_;unfold impl_TreeWorld_think_m at h;(conv=>whnf);obtain ⟨g1,h⟩:=gd_some h;refine And.intro g1 ?_;clear g1;(conv=>whnf);obtain ⟨x2,hx2,h⟩:=bd_some h;refine callC 0 (impl_selfMind_c hx2) (by kernel_rfl) (by kernel_rfl) ?_;clear hx2;(conv=>whnf);refine seq_in tOk ?_;(conv=>whnf);obtain ⟨x6,hx6,h⟩:=bd_some h;refine loop_m tOk hx6 (fun s3=>⟨0,110,[(0,.rp [slD TreeBridge.enc a0.Bridges,slD TreeLink.enc a0.Links,slD encInt a0.Down,slD TreeSlot.enc a0.AtA,slD TreeSlot.enc a0.AtB,slD TreeWord.enc a0.Radio]),(1,.d (.int .i64 a1)),(4,.ref 4 0 0),(5,.ref 5 0 0),(6,.d (.int .i64 s3.2.2.2.2.2)),(25,.d (slD TreeLink.enc a0.Links)),(26,.d (.int .i64 ((a0.Links.length:Nat):Int))),(27,.d (.int .i64 s3.2.2.2.2.1))],[],[(5,.box 54 [.d (.int .i64 s3.1),.d (.int .i64 s3.2.1),.d (.int .i64 s3.2.2.1),.d (.int .i64 s3.2.2.2.1)]),(4,.box 54 [.d (.int .i64 0),.d (.int .i64 0),.d (.int .i64 0),.d (.int .i64 0)])],[]⟩) ?_ ?_
  · refine le_mk ?_ ?_ ?_ <;> exact leA
  · clear hx6;intro s3 y4 g5 hy4;(conv=>whnf);refine seq_in tOk ?_;(conv=>whnf);refine And.intro (fun e=>?_) (fun e=>?_)
    · replace g5:=ite_t g5 e; clear e;(conv=>whnf);refine seq_in tOk ?_;(conv=>whnf);obtain ⟨g7,g5⟩:=gd_some g5;refine And.intro g7 ?_;clear g7;(conv=>whnf);obtain ⟨x11,hx11,g5⟩:=bd_some g5;refine loop_m tOk hx11 (fun s8=>⟨0,110,[(0,.rp [slD TreeBridge.enc a0.Bridges,slD TreeLink.enc a0.Links,slD encInt a0.Down,slD TreeSlot.enc a0.AtA,slD TreeSlot.enc a0.AtB,slD TreeWord.enc a0.Radio]),(1,.d (.int .i64 a1)),(4,.ref 4 0 0),(5,.ref 5 0 0),(6,.d (.int .i64 s8.2.2.2.2.2)),(7,.d (.int .i64 s3.2.2.2.2.1)),(8,.ref 8 0 0),(25,.d (slD TreeLink.enc a0.Links)),(26,.d (.int .i64 ((a0.Links.length:Nat):Int))),(27,.d (.int .i64 s3.2.2.2.2.1)),(32,.d (.int .i64 s8.2.2.2.2.1))],[],[(8,.box 61 [.d (.int .i64 ((a0.Links.getD s3.2.2.2.2.1.toNat default).A)),.d (.int .i64 ((a0.Links.getD s3.2.2.2.2.1.toNat default).B)),.d (.int .i64 ((a0.Links.getD s3.2.2.2.2.1.toNat default).Cost))]),(5,.box 54 [.d (.int .i64 s8.1),.d (.int .i64 s8.2.1),.d (.int .i64 s8.2.2.1),.d (.int .i64 s8.2.2.2.1)]),(4,.box 54 [.d (.int .i64 0),.d (.int .i64 0),.d (.int .i64 0),.d (.int .i64 0)])],[]⟩) ?_ ?_
      · refine le_mk ?_ ?_ ?_ <;> exact leA
      · clear hx11;intro s8 y9 g10 hy9;(conv=>whnf);refine seq_in tOk ?_;(conv=>whnf);refine And.intro (fun e=>?_) (fun e=>?_)
        · replace g10:=ite_t g10 e; clear e;(conv=>whnf);refine seq_in tOk ?_;(conv=>whnf);obtain ⟨x12,hx12,g10⟩:=bd_some g10;refine callE [] 0 (impl_TreeWorld_slot_c hx12) argA inA rfl rfl ?_;(conv=>whnf);refine seq_in tOk ?_;(conv=>whnf);obtain ⟨x13,hx13,g10⟩:=bd_some g10;refine callC 0 (impl_TreeWorld_bridgeAt_c hx13) (by kernel_rfl) (by kernel_rfl) ?_;clear hx13;(conv=>whnf);obtain ⟨x14,hx14,g10⟩:=bd_some g10;refine callG_m rfl rfl rfl rfl rfl rfl (by intro c0; exact impl_TreeVector_nothing_c (gcall_some hx14 c0)) ?_;(conv=>whnf);refine And.intro (fun e=>?_) (fun e=>?_)
          · replace g10:=ite_t g10 e; clear e;(conv=>whnf);obtain rfl:=Option.some.inj g10;refine ⟨_,rfl,le_mk ?_ ?_ ?_⟩ <;> exact leA
          · replace g10:=ite_f g10 e; clear e;(conv=>whnf);obtain ⟨x15,hx15,g10⟩:=bd_some g10;obtain ⟨g16,g10⟩:=gd_some g10;refine draw_k tOk (by kernel_rfl) (fun j=>match j with | 8=>some (.pure 0 (.d (.int .i64 x15)) []) | _=>none) 13 [] [[],[true],[true,true],[true,true,true],[],[],[],[false,false,false,false,false,false,true],[false,false,false,false,true,true,true,true],[true,true,true,true,true,true,true,true,true],[true,true,true,true,true,true,true,true,true,true],[true,true,true,true,true,true,true,true,true,true,true],[true,true,true,true,true,true,true,true,true,true,true,true]] [] (by decide) (by kernel_rfl) (by kernel_rfl) ?_;(conv=>whnf);refine And.intro (callD_any (impl_TreeWorld_bridgeAt_c hx15) (by kernel_rfl)) ?_;(conv=>whnf);refine And.intro g16 ?_;clear g16;(conv=>whnf);refine And.intro (by kernel_rfl) ?_;(conv=>whnf);obtain ⟨x17,hx17,g10⟩:=bd_some g10;refine callC 0 (impl_TreeVector_compare_c hx17) (by kernel_rfl) (by kernel_rfl) ?_;clear hx17;(conv=>whnf);refine And.intro (fun e=>?_) (fun e=>?_)
            · replace g10:=ite_t g10 e; clear e;(conv=>whnf);obtain rfl:=Option.some.inj g10;refine ⟨_,rfl,le_mk ?_ ?_ ?_⟩ <;> exact leA
            · replace g10:=ite_f g10 e; clear e;(conv=>whnf);obtain rfl:=Option.some.inj g10;refine ⟨_,rfl,le_mk ?_ ?_ ?_⟩ <;> exact leA
        · replace g10:=ite_f g10 e; clear e;(conv=>whnf);obtain rfl:=Option.some.inj g10;obtain rfl:=hy9 _ rfl;obtain rfl:=Option.some.inj g5;refine ⟨_,rfl,le_mk ?_ ?_ ?_⟩ <;> exact leA
    · replace g5:=ite_f g5 e; clear e;(conv=>whnf);obtain rfl:=Option.some.inj g5;obtain rfl:=hy4 _ rfl;obtain rfl:=Option.some.inj h;exact ⟨_,LE.refl _,And.intro rfl trivial⟩
noncomputable def impl_TreeThink_m (a0:TreeWorld) (a1:Int):Option (TreeMind) :=
 bd (impl_TreeWorldOk_m a0) fun x1 =>
 bd (gcall ((!x1) = false) (impl_TreeWorld_isUp_m a0 a1)) fun x2 =>
(if ((!x1) || (!x2)) = true then
 some (⟨(⟨0,0,0⟩:TreeVector),0⟩:TreeMind)
else
 bd (impl_TreeWorld_think_m a0 a1) fun x3 =>
 some x3)
theorem impl_TreeThink_c {a0:TreeWorld} {a1:Int} {r:TreeMind} (h:impl_TreeThink_m a0 a1 = some r):PureC Try.prog 24 [.agg [.d (slD TreeBridge.enc a0.Bridges),.d (slD TreeLink.enc a0.Links),.d (slD encInt a0.Down),.d (slD TreeSlot.enc a0.AtA),.d (slD TreeSlot.enc a0.AtB),.d (slD TreeWord.enc a0.Radio)],.d (.int .i64 a1)] (.agg [.d (.int .i64 r.Vector.Root),.d (.int .i64 r.Vector.Cost),.d (.int .i64 r.Vector.Age),.d (.int .i64 r.Link)]) []:=by
  refine pureC_m tOk (fn:=Try.f24) (c:=codeOf Try.f24) rfl rfl (by kernel_rfl) rfl rfl (by simp) (by simp) (ids_of rfl) ?_;unfold impl_TreeThink_m at h;(conv=>whnf);refine seq_in tOk ?_;(conv=>whnf);obtain ⟨x1,hx1,h⟩:=bd_some h;refine callC 0 (impl_TreeWorldOk_c hx1) (by kernel_rfl) (by kernel_rfl) ?_;clear hx1;(conv=>whnf);obtain ⟨x2,hx2,h⟩:=bd_some h;refine callG_m rfl rfl rfl rfl rfl rfl (by intro c0; exact impl_TreeWorld_isUp_c (gcall_some hx2 c0)) ?_;(conv=>whnf);refine And.intro (fun e=>?_) (fun e=>?_)
  · replace h:=ite_t h e; clear e;(conv=>whnf);obtain rfl:=Option.some.inj h;exact ⟨_,LE.refl _,And.intro rfl trivial⟩
  · replace h:=ite_f h e; clear e;(conv=>whnf);obtain ⟨x3,hx3,h⟩:=bd_some h;refine callC 0 (impl_TreeWorld_think_c hx3) (by kernel_rfl) (by kernel_rfl) ?_;clear hx3;(conv=>whnf);obtain rfl:=Option.some.inj h;exact ⟨_,LE.refl _,And.intro rfl trivial⟩
noncomputable def spec_TreeThink_m (a0:TreeWorld) (a1:Int):Option (TreeMind) :=
 bd (spec_TreeWorldOk_m a0) fun x1 =>
 bd (gcall ((!x1) = false) (spec_l81In_m a1 0 (IntKind.i64.wrap (((a0.Bridges.length:Nat):Int) - 1)))) fun x2 =>
 gd (((!x1) || (!x2)) = false → ((0:Int)≤a1∧a1<((a0.Bridges.length:Nat):Int))) <|
(if (((!x1) || (!x2)) || (!((a0.Bridges.getD a1.toNat default).Up))) = true then
 some (⟨(⟨0,0,0⟩:TreeVector),0⟩:TreeMind)
else
 bd (spec_l82Think_m a0 a1) fun x4 =>
 some x4)
theorem spec_TreeThink_c {a0:TreeWorld} {a1:Int} {r:TreeMind} (h:spec_TreeThink_m a0 a1 = some r):PureC Try.prog 25 [.agg [.d (slD TreeBridge.enc a0.Bridges),.d (slD TreeLink.enc a0.Links),.d (slD encInt a0.Down),.d (slD TreeSlot.enc a0.AtA),.d (slD TreeSlot.enc a0.AtB),.d (slD TreeWord.enc a0.Radio)],.d (.int .i64 a1)] (.agg [.d (.int .i64 r.Vector.Root),.d (.int .i64 r.Vector.Cost),.d (.int .i64 r.Vector.Age),.d (.int .i64 r.Link)]) []:=by
  refine pureC_m tOk (fn:=Try.f25) (c:=codeOf Try.f25) rfl rfl (by kernel_rfl) rfl rfl (by simp) (by simp) (ids_of rfl) ?_;unfold spec_TreeThink_m at h;(conv=>whnf);refine seq_in tOk ?_;(conv=>whnf);obtain ⟨x1,hx1,h⟩:=bd_some h;refine callC 0 (spec_TreeWorldOk_c hx1) (by kernel_rfl) (by kernel_rfl) ?_;clear hx1;(conv=>whnf);obtain ⟨x2,hx2,h⟩:=bd_some h;refine callG_m rfl rfl rfl rfl rfl rfl (by intro c0; exact spec_l81In_c (gcall_some hx2 c0)) ?_;(conv=>whnf);obtain ⟨g3,h⟩:=gd_some h;refine And.intro g3 ?_;clear g3;(conv=>whnf);refine And.intro (fun e=>?_) (fun e=>?_)
  · replace h:=ite_t h e; clear e;(conv=>whnf);obtain rfl:=Option.some.inj h;exact ⟨_,LE.refl _,And.intro rfl trivial⟩
  · replace h:=ite_f h e; clear e;(conv=>whnf);obtain ⟨x4,hx4,h⟩:=bd_some h;refine callC 0 (spec_l82Think_c hx4) (by kernel_rfl) (by kernel_rfl) ?_;clear hx4;(conv=>whnf);obtain rfl:=Option.some.inj h;exact ⟨_,LE.refl _,And.intro rfl trivial⟩
noncomputable def laws_FnTreeThink_m (a0:(List Int)):Option (Bool) :=
(if (decide (((a0.length:Nat):Int) > 1048576)) = true then
 some true
else
 bd (spec_DrawTreeThink_m a0) fun x1 =>
 bd (impl_TreeThink_m x1.1 x1.2) fun x2 =>
 bd (spec_TreeThink_m x1.1 x1.2) fun x3 =>
 bd (gcall ((!(((x2.Vector.Root == x3.Vector.Root) && ((x2.Vector.Cost == x3.Vector.Cost) && ((x2.Vector.Age == x3.Vector.Age) && true))) && ((x2.Link == x3.Link) && true))) = false) (impl_TreeWorldOk_m x1.1)) fun x4 =>
 bd (gcall ((!(((x2.Vector.Root == x3.Vector.Root) && ((x2.Vector.Cost == x3.Vector.Cost) && ((x2.Vector.Age == x3.Vector.Age) && true))) && ((x2.Link == x3.Link) && true))) = false) (spec_TreeWorldOk_m x1.1)) fun x5 =>
(if ((!(((x2.Vector.Root == x3.Vector.Root) && ((x2.Vector.Cost == x3.Vector.Cost) && ((x2.Vector.Age == x3.Vector.Age) && true))) && ((x2.Link == x3.Link) && true))) || (!(x4 == x5))) = true then
 some false
else
 bd (spec_TreeWorldOk_m x1.1) fun x6 =>
 gd ((((!x6) || (decide (x1.2<0))) || (decide (x1.2 ≥ ((x1.1.Bridges.length:Nat):Int)))) = false → ((0:Int)≤x1.2∧x1.2<((x1.1.Bridges.length:Nat):Int))) <|
(if ((((!x6) || (decide (x1.2<0))) || (decide (x1.2 ≥ ((x1.1.Bridges.length:Nat):Int)))) || (!((x1.1.Bridges.getD x1.2.toNat default).Up))) = true then
 some (((x2.Vector.Root == 0) && ((x2.Vector.Cost == 0) && ((x2.Vector.Age == 0) && true))) && ((x2.Link == 0) && true))
else
 bd (impl_TreeVectorOk_m x2.Vector) fun x8 =>
 gd ((!x8) = false → ((0:Int)≤x1.2∧x1.2<((x1.1.Bridges.length:Nat):Int))) <|
 gd (((!x8) || (decide (x2.Vector.Root > ((x1.1.Bridges.getD x1.2.toNat default).Id)))) = false → ((0:Int)≤x1.2∧x1.2<((x1.1.Bridges.length:Nat):Int))) <|
(if (((!x8) || (decide (x2.Vector.Root > ((x1.1.Bridges.getD x1.2.toNat default).Id)))) || (!((decide (x2.Link<0)) == ((x2.Vector.Root == ((x1.1.Bridges.getD x1.2.toNat default).Id)) && ((x2.Vector.Cost == 0) && ((x2.Vector.Age == 0) && true)))))) = true then
 some false
else
 bd (lp (σ:=Int) (β:=(Unit ⊕ Unit)) (fun s11 =>
(if (decide (s11<((x1.1.Links.length:Nat):Int))) = true then
 bd (α:=Int × Int × Int) (gd ((0:Int)≤s11∧s11<((x1.1.Links.length:Nat):Int)) <|
(if (((x1.1.Links.getD s11.toNat default).A) == x1.2) = true then
 gd ((0:Int)≤s11∧s11<((x1.1.AtA.length:Nat):Int)) <|
 some (((x1.1.AtA.getD s11.toNat default).Vector).Root,((x1.1.AtA.getD s11.toNat default).Vector).Cost,((x1.1.AtA.getD s11.toNat default).Vector).Age)
else
 some (0,0,0))) fun x15 =>
 bd (α:=Int × Int × Int) (gd ((0:Int)≤s11∧s11<((x1.1.Links.length:Nat):Int)) <|
(if (((x1.1.Links.getD s11.toNat default).B) == x1.2) = true then
 gd ((0:Int)≤s11∧s11<((x1.1.AtB.length:Nat):Int)) <|
 some (((x1.1.AtB.getD s11.toNat default).Vector).Root,((x1.1.AtB.getD s11.toNat default).Vector).Cost,((x1.1.AtB.getD s11.toNat default).Vector).Age)
else
 some (x15.1,x15.2.1,x15.2.2))) fun x20 =>
 gd ((0:Int)≤s11∧s11<((x1.1.Links.length:Nat):Int)) <|
(if ((s11 == x2.Link) && (((x20.1 != x2.Vector.Root) || ((IntKind.i64.wrap (x20.2.1+((x1.1.Links.getD s11.toNat default).Cost))) != x2.Vector.Cost)) || ((IntKind.i64.wrap (x20.2.2+1)) != x2.Vector.Age))) = true then
 some (.inr (.inl ()))
else
(if ((((decide (x20.1 > 0)) && (decide (x20.2.2<10))) && (decide ((IntKind.i64.wrap (x20.2.1+((x1.1.Links.getD s11.toNat default).Cost)))≤1000))) && ((decide (x20.1<x2.Vector.Root)) || ((x20.1 == x2.Vector.Root) && (decide ((IntKind.i64.wrap (x20.2.1+((x1.1.Links.getD s11.toNat default).Cost)))<x2.Vector.Cost))))) = true then
 some (.inr (.inl ()))
else
 some (.inl (IntKind.i64.wrap (s11+1)))))
else
 some (.inr (.inr ())))) 0) fun x14 =>
(match x14 with
| .inl d26 =>
 some false
| .inr d27 =>
 some true)))))
theorem laws_FnTreeThink_c {a0:(List Int)} {r:Bool} (h:laws_FnTreeThink_m a0 = some r):PureC Try.prog 5 [.d (slD encByte a0)] (.d (.bool r)) []:=by
  refine pureC_m tOk (fn:=Try.f5) (c:=codeOf Try.f5) rfl rfl (by kernel_rfl) rfl rfl (by simp) (by simp) (ids_of rfl) ?_;unfold laws_FnTreeThink_m at h;(conv=>whnf);refine seq_in tOk ?_;(conv=>whnf);refine And.intro (fun e=>?_) (fun e=>?_)
  · replace h:=ite_t h e; clear e;(conv=>whnf);obtain rfl:=Option.some.inj h;exact ⟨_,LE.refl _,And.intro rfl trivial⟩
  · replace h:=ite_f h e; clear e;(conv=>whnf);obtain ⟨x1,hx1,h⟩:=bd_some h;refine callE [] 0 (spec_DrawTreeThink_c hx1) argA inA rfl rfl ?_;(conv=>whnf);obtain ⟨x2,hx2,h⟩:=bd_some h;refine callC 0 (impl_TreeThink_c hx2) (by kernel_rfl) (by kernel_rfl) ?_;clear hx2;(conv=>whnf);refine seq_in tOk ?_;(conv=>whnf);obtain ⟨x3,hx3,h⟩:=bd_some h;obtain ⟨x4,hx4,h⟩:=bd_some h;obtain ⟨x5,hx5,h⟩:=bd_some h;refine draw_k tOk (by kernel_rfl) (fun j=>match j with | 3=>some (.pure 0 (.agg [.d (.int .i64 x3.Vector.Root),.d (.int .i64 x3.Vector.Cost),.d (.int .i64 x3.Vector.Age),.d (.int .i64 x3.Link)]) []) | 7=>some (.pure 0 (.d (.bool x4)) []) | 9=>some (.pure 0 (.d (.bool x5)) []) | _=>none) 12 [] [[],[],[],[false,true,true],[true,true,true,true],[true,true,true,true,true],[true,true,true,true,true,true],[true,true,true,true,true,true,true],[true,true,true,true,true,true],[true,true,true,true,true,true,true,true,true],[true,true,true,true,true,true,true,true,true,true],[true,true,true,true,true,true,true,true,true,true,true]] [] (by decide) (by kernel_rfl) (by kernel_rfl) ?_;(conv=>whnf);refine And.intro (callD_any (spec_TreeThink_c hx3) (by kernel_rfl)) ?_;(conv=>whnf);refine And.intro (callDG_if rfl rfl rfl rfl (by intro c0; exact impl_TreeWorldOk_c (gcall_some hx4 c0))) ?_;(conv=>whnf);refine And.intro (callDG_if rfl rfl rfl rfl (by intro c0; exact spec_TreeWorldOk_c (gcall_some hx5 c0))) ?_;(conv=>whnf);refine And.intro (by kernel_rfl) ?_;(conv=>whnf);refine And.intro (fun e=>?_) (fun e=>?_)
    · replace h:=ite_t h e; clear e;(conv=>whnf);obtain rfl:=Option.some.inj h;exact ⟨_,LE.refl _,And.intro rfl trivial⟩
    · replace h:=ite_f h e; clear e;(conv=>whnf);refine seq_in tOk ?_;(conv=>whnf);obtain ⟨x6,hx6,h⟩:=bd_some h;refine callC 0 (spec_TreeWorldOk_c hx6) (by kernel_rfl) (by kernel_rfl) ?_;clear hx6;(conv=>whnf);obtain ⟨g7,h⟩:=gd_some h;refine And.intro g7 ?_;clear g7;(conv=>whnf);refine And.intro (fun e=>?_) (fun e=>?_)
      · replace h:=ite_t h e; clear e;(conv=>whnf);obtain rfl:=Option.some.inj h;exact ⟨_,LE.refl _,And.intro rfl trivial⟩
      · replace h:=ite_f h e; clear e;(conv=>whnf);refine seq_in tOk ?_;(conv=>whnf);obtain ⟨x8,hx8,h⟩:=bd_some h;obtain ⟨g9,h⟩:=gd_some h;obtain ⟨g10,h⟩:=gd_some h;refine draw_k tOk (by kernel_rfl) (fun j=>match j with | 2=>some (.pure 0 (.d (.bool x8)) []) | _=>none) 32 [] [[],[true],[true,true],[true,true,true],[true,true,true,true],[true,true,true,true,true],[true,true,true,true,true,true],[true,true,true,true,true,true,true],[true,true,true,true,true],[true,true,true,true,true,false,false,false,true],[true,true,true,true,true],[true,true,true,true,true,false,false,false,true,true,true],[true,true,true,true,true,false,false,false,true,true,true,true],[true,true,true,true,true,false,false,false,true,true,true,true,true],[true,true,true,true,true,true,true,true,true,true,true,true,true,true],[true,true,true,true,true,true,true,true,true,true,true,true,true,true,true],[true,true,true,true,true,true,true,true,true,true,true,true,true,true,true,true],[true,true,true,true,true,true,true,true,true,true,true,true,true,true,true,true,true],[true,true,true,true,true,true,true,true,true,true,true,true,true,true,true,true,true,true],[true,true,true,true,true,true,true,true,true,true,true,true,true,true,true,true,true,true,true],[true,true,true,true,true,true,true,true,true,true,true,true,true,true,true,true,true],[true,true,true,true,true,true,true,true,true,true,true,true,true,true,true,true,true,false,false,false,true],[true,true,true,true,true,true,true,true,true,true,true,true,true,true,true,true,true],[true,true,true,true,true,true,true,true,true,true,true,true,true,true,true,true,true,false,false,false,false,false,true],[true,true,true,true,true,true,true,true,true,true,true,true,true,true,true,true,true],[true,true,true,true,true,true,true,true,true,true,true,true,true,true,true,true,true,false,false,false,false,false,true,true,true],[true,true,true,true,true,true,true,true,true,true,true,true,true,true,true,true,true,false,false,false,false,false,true,true,true,true],[true,true,true,true,true,true,true,true,true,true,true,true,true,true,true,true,true,false,false,false,false,false,true,true,true,true,true],[true,true,true,true,true,true,true,true,true,true,true,true,true,true,true,true,true,false,false,false,false,false,true,true,true,true,true,true],[true,true,true,true,true,true,true,true,true,true,true,true,true,true,true,true,true,false,false,false,true,true,true,true,true,true,true,true,true],[true,true,true,true,true,true,true,true,true,true,true,true,true,true,true,true,true,true,true,true,true,true,true,true,true,true,true,true,true,true],[true,true,true,true,true,true,true,true,true,true,true,true,true,true,true,true,true,true,true,true,true,true,true,true,true,true,true,true,true,true,true]] [] (by decide) (by kernel_rfl) (by kernel_rfl) ?_;(conv=>whnf);refine And.intro (callD_any (impl_TreeVectorOk_c hx8) (by kernel_rfl)) ?_;(conv=>whnf);refine And.intro g9 ?_;clear g9;(conv=>whnf);refine And.intro g10 ?_;clear g10;(conv=>whnf);refine And.intro (by kernel_rfl) ?_;(conv=>whnf);refine And.intro (fun e=>?_) (fun e=>?_)
        · replace h:=ite_t h e; clear e;(conv=>whnf);obtain rfl:=Option.some.inj h;exact ⟨_,LE.refl _,And.intro rfl trivial⟩
        · replace h:=ite_f h e; clear e;(conv=>whnf);refine seq_in tOk ?_;(conv=>whnf);obtain ⟨x14,hx14,h⟩:=bd_some h;refine loop_m tOk hx14 (fun s11=>⟨0,198,[(3,.ref 3 0 0),(4,.d (.int .i64 x1.2)),(5,.ref 5 0 0),(6,.d (.int .i64 s11))],[],[(5,.box 54 [.d (.int .i64 x2.Vector.Root),.d (.int .i64 x2.Vector.Cost),.d (.int .i64 x2.Vector.Age),.d (.int .i64 x2.Link)]),(3,.box 36 [.d (slD TreeBridge.enc x1.1.Bridges),.d (slD TreeLink.enc x1.1.Links),.d (slD encInt x1.1.Down),.d (slD TreeSlot.enc x1.1.AtA),.d (slD TreeSlot.enc x1.1.AtB),.d (slD TreeWord.enc x1.1.Radio)])],[]⟩) ?_ ?_
          · refine le_mk ?_ ?_ ?_ <;> exact leA
          · clear hx14;intro s11 y12 g13 hy12;(conv=>whnf);refine seq_in tOk ?_;(conv=>whnf);refine And.intro (fun e=>?_) (fun e=>?_)
            · replace g13:=ite_t g13 e; clear e;(conv=>whnf);refine seq_in tOk ?_;(conv=>whnf);obtain ⟨x15,hx15,g13⟩:=bd_some g13;refine seq_join tOk (fun s16=>⟨0,198,[(3,.ref 3 0 0),(4,.d (.int .i64 x1.2)),(5,.ref 5 0 0),(6,.d (.int .i64 s11)),(7,.ref 7 0 0)],[],[(7,.box 52 [.d (.int .i64 s16.1),.d (.int .i64 s16.2.1),.d (.int .i64 s16.2.2)]),(5,.box 54 [.d (.int .i64 x2.Vector.Root),.d (.int .i64 x2.Vector.Cost),.d (.int .i64 x2.Vector.Age),.d (.int .i64 x2.Link)]),(3,.box 36 [.d (slD TreeBridge.enc x1.1.Bridges),.d (slD TreeLink.enc x1.1.Links),.d (slD encInt x1.1.Down),.d (slD TreeSlot.enc x1.1.AtA),.d (slD TreeSlot.enc x1.1.AtB),.d (slD TreeWord.enc x1.1.Radio)])],[]⟩) (fun s16=>x15 = s16) ?_ ?_
              · (conv=>whnf);obtain ⟨g18,hx15⟩:=gd_some hx15;refine And.intro g18 ?_;clear g18;(conv=>whnf);refine And.intro (fun e=>?_) (fun e=>?_)
                · replace hx15:=ite_t hx15 e; clear e;(conv=>whnf);obtain ⟨g19,hx15⟩:=gd_some hx15;refine And.intro g19 ?_;clear g19;(conv=>whnf);obtain rfl:=Option.some.inj hx15;refine ⟨_,rfl,le_mk ?_ ?_ ?_⟩ <;> exact leA
                · replace hx15:=ite_f hx15 e; clear e;(conv=>whnf);obtain rfl:=Option.some.inj hx15;refine ⟨_,rfl,le_mk ?_ ?_ ?_⟩ <;> exact leA
              · rintro _ rfl;(conv=>whnf);obtain ⟨x20,hx20,g13⟩:=bd_some g13;refine seq_join tOk (fun s21=>⟨0,198,[(3,.ref 3 0 0),(4,.d (.int .i64 x1.2)),(5,.ref 5 0 0),(6,.d (.int .i64 s11)),(7,.ref 7 0 0)],[],[(7,.box 52 [.d (.int .i64 s21.1),.d (.int .i64 s21.2.1),.d (.int .i64 s21.2.2)]),(5,.box 54 [.d (.int .i64 x2.Vector.Root),.d (.int .i64 x2.Vector.Cost),.d (.int .i64 x2.Vector.Age),.d (.int .i64 x2.Link)]),(3,.box 36 [.d (slD TreeBridge.enc x1.1.Bridges),.d (slD TreeLink.enc x1.1.Links),.d (slD encInt x1.1.Down),.d (slD TreeSlot.enc x1.1.AtA),.d (slD TreeSlot.enc x1.1.AtB),.d (slD TreeWord.enc x1.1.Radio)])],[]⟩) (fun s21=>x20 = s21) ?_ ?_
                · (conv=>whnf);obtain ⟨g23,hx20⟩:=gd_some hx20;refine And.intro g23 ?_;clear g23;(conv=>whnf);refine And.intro (fun e=>?_) (fun e=>?_)
                  · replace hx20:=ite_t hx20 e; clear e;(conv=>whnf);obtain ⟨g24,hx20⟩:=gd_some hx20;refine And.intro g24 ?_;clear g24;(conv=>whnf);obtain rfl:=Option.some.inj hx20;refine ⟨_,rfl,le_mk ?_ ?_ ?_⟩ <;> exact leA
                  · replace hx20:=ite_f hx20 e; clear e;(conv=>whnf);obtain rfl:=Option.some.inj hx20;refine ⟨_,rfl,le_mk ?_ ?_ ?_⟩ <;> exact leA
                · rintro _ rfl;(conv=>whnf);obtain ⟨g25,g13⟩:=gd_some g13;refine draw_k tOk (by kernel_rfl) (fun _=>none) 10 [] [[],[true],[],[false,false,true],[],[false,false,true,true,true],[false,false,true,true,true,true],[false,false,true,true,true,true,true],[true,true,true,true,true,true,true,true],[true,true,true,true,true,true,true,true,true]] [] (by decide) (by kernel_rfl) (by kernel_rfl) ?_;(conv=>whnf);refine And.intro g25 ?_;clear g25;(conv=>whnf);refine And.intro (by kernel_rfl) ?_;(conv=>whnf);refine seq_in tOk ?_;(conv=>whnf);refine And.intro (fun e=>?_) (fun e=>?_)
                  · replace g13:=ite_t g13 e; clear e;(conv=>whnf);obtain rfl:=Option.some.inj g13;obtain rfl:=hy12 _ rfl;obtain rfl:=Option.some.inj h;exact ⟨_,LE.refl _,And.intro rfl trivial⟩
                  · replace g13:=ite_f g13 e; clear e;(conv=>whnf);refine And.intro (fun e=>?_) (fun e=>?_)
                    · replace g13:=ite_t g13 e; clear e;(conv=>whnf);obtain rfl:=Option.some.inj g13;obtain rfl:=hy12 _ rfl;obtain rfl:=Option.some.inj h;exact ⟨_,LE.refl _,And.intro rfl trivial⟩
                    · replace g13:=ite_f g13 e; clear e;(conv=>whnf);obtain rfl:=Option.some.inj g13;refine ⟨_,rfl,le_mk ?_ ?_ ?_⟩ <;> exact leA
            · replace g13:=ite_f g13 e; clear e;(conv=>whnf);obtain rfl:=Option.some.inj g13;obtain rfl:=hy12 _ rfl;obtain rfl:=Option.some.inj h;exact ⟨_,LE.refl _,And.intro rfl trivial⟩
noncomputable def laws_toTreeVector_m (a0:TreeVector):Option (TreeVector) :=
 some a0
theorem laws_toTreeVector_c {a0:TreeVector} {r:TreeVector} (h:laws_toTreeVector_m a0 = some r):PureC Try.prog 148 [.agg [.d (.int .i64 a0.Root),.d (.int .i64 a0.Cost),.d (.int .i64 a0.Age)]] (.agg [.d (.int .i64 r.Root),.d (.int .i64 r.Cost),.d (.int .i64 r.Age)]) []:=by
  refine pureC_m tOk (fn:=Try.f148) (c:=codeOf Try.f148) rfl rfl (by kernel_rfl) rfl rfl (by simp) (by simp) (ids_of rfl) ?_;unfold laws_toTreeVector_m at h;(conv=>whnf);obtain rfl:=Option.some.inj h;exact ⟨_,LE.refl _,And.intro rfl trivial⟩
noncomputable def laws_toTreeMind_m (a0:TreeMind):Option (TreeMind) :=
 bd (laws_toTreeVector_m a0.Vector) fun x1 =>
 some (⟨x1,a0.Link⟩:TreeMind)
theorem laws_toTreeMind_c {a0:TreeMind} {r:TreeMind} (h:laws_toTreeMind_m a0 = some r):PureC Try.prog 147 [.agg [.d (.int .i64 a0.Vector.Root),.d (.int .i64 a0.Vector.Cost),.d (.int .i64 a0.Vector.Age),.d (.int .i64 a0.Link)]] (.agg [.d (.int .i64 r.Vector.Root),.d (.int .i64 r.Vector.Cost),.d (.int .i64 r.Vector.Age),.d (.int .i64 r.Link)]) []:=by
  refine pureC_m tOk (fn:=Try.f147) (c:=codeOf Try.f147) rfl rfl (by kernel_rfl) rfl rfl (by simp) (by simp) (ids_of rfl) ?_;unfold laws_toTreeMind_m at h;(conv=>whnf);obtain ⟨x1,hx1,h⟩:=bd_some h;refine callC 0 (laws_toTreeVector_c hx1) (by kernel_rfl) (by kernel_rfl) ?_;clear hx1;(conv=>whnf);obtain rfl:=Option.some.inj h;exact ⟨_,LE.refl _,And.intro rfl trivial⟩
noncomputable def laws_toTreeBridge_m (a0:TreeBridge):Option (TreeBridge) :=
 bd (laws_toTreeMind_m a0.Mind) fun x1 =>
 some ({ a0 with Mind:=x1 })
theorem laws_toTreeBridge_c {a0:TreeBridge} {r:TreeBridge} (h:laws_toTreeBridge_m a0 = some r):PureC Try.prog 101 [.agg [.d (.int .i64 a0.Id),.d (.bool a0.Up),.d (.int .i64 a0.Mind.Vector.Root),.d (.int .i64 a0.Mind.Vector.Cost),.d (.int .i64 a0.Mind.Vector.Age),.d (.int .i64 a0.Mind.Link)]] (.agg [.d (.int .i64 r.Id),.d (.bool r.Up),.d (.int .i64 r.Mind.Vector.Root),.d (.int .i64 r.Mind.Vector.Cost),.d (.int .i64 r.Mind.Vector.Age),.d (.int .i64 r.Mind.Link)]) []:=by
  refine pureC_m tOk (fn:=Try.f101) (c:=codeOf Try.f101) rfl rfl (by kernel_rfl) rfl rfl (by simp) (by simp) (ids_of rfl) ?_;unfold laws_toTreeBridge_m at h;(conv=>whnf);obtain ⟨x1,hx1,h⟩:=bd_some h;refine callC 0 (laws_toTreeMind_c hx1) (by kernel_rfl) (by kernel_rfl) ?_;clear hx1;(conv=>whnf);obtain rfl:=Option.some.inj h;exact ⟨_,LE.refl _,And.intro rfl trivial⟩
noncomputable def laws_toTreeLink_m (a0:TreeLink):Option (TreeLink) :=
 some a0
theorem laws_toTreeLink_c {a0:TreeLink} {r:TreeLink} (h:laws_toTreeLink_m a0 = some r):PureC Try.prog 102 [.agg [.d (.int .i64 a0.A),.d (.int .i64 a0.B),.d (.int .i64 a0.Cost)]] (.agg [.d (.int .i64 r.A),.d (.int .i64 r.B),.d (.int .i64 r.Cost)]) []:=by
  refine pureC_m tOk (fn:=Try.f102) (c:=codeOf Try.f102) rfl rfl (by kernel_rfl) rfl rfl (by simp) (by simp) (ids_of rfl) ?_;unfold laws_toTreeLink_m at h;(conv=>whnf);obtain rfl:=Option.some.inj h;exact ⟨_,LE.refl _,And.intro rfl trivial⟩
noncomputable def laws_toTreeSlot_m (a0:TreeSlot):Option (TreeSlot) :=
 bd (laws_toTreeVector_m a0.Vector) fun x1 =>
 some (⟨x1,a0.Left⟩:TreeSlot)
theorem laws_toTreeSlot_c {a0:TreeSlot} {r:TreeSlot} (h:laws_toTreeSlot_m a0 = some r):PureC Try.prog 103 [.agg [.d (.int .i64 a0.Vector.Root),.d (.int .i64 a0.Vector.Cost),.d (.int .i64 a0.Vector.Age),.d (.int .i64 a0.Left)]] (.agg [.d (.int .i64 r.Vector.Root),.d (.int .i64 r.Vector.Cost),.d (.int .i64 r.Vector.Age),.d (.int .i64 r.Left)]) []:=by
  refine pureC_m tOk (fn:=Try.f103) (c:=codeOf Try.f103) rfl rfl (by kernel_rfl) rfl rfl (by simp) (by simp) (ids_of rfl) ?_;unfold laws_toTreeSlot_m at h;(conv=>whnf);obtain ⟨x1,hx1,h⟩:=bd_some h;refine callC 0 (laws_toTreeVector_c hx1) (by kernel_rfl) (by kernel_rfl) ?_;clear hx1;(conv=>whnf);obtain rfl:=Option.some.inj h;exact ⟨_,LE.refl _,And.intro rfl trivial⟩
noncomputable def laws_toTreeWord_m (a0:TreeWord):Option (TreeWord) :=
 bd (laws_toTreeVector_m a0.Vector) fun x1 =>
 some ({ a0 with Vector:=x1 })
theorem laws_toTreeWord_c {a0:TreeWord} {r:TreeWord} (h:laws_toTreeWord_m a0 = some r):PureC Try.prog 104 [.agg [.d (.int .i64 a0.Link),.d (.int .i64 a0.End),.d (.int .i64 a0.Vector.Root),.d (.int .i64 a0.Vector.Cost),.d (.int .i64 a0.Vector.Age)]] (.agg [.d (.int .i64 r.Link),.d (.int .i64 r.End),.d (.int .i64 r.Vector.Root),.d (.int .i64 r.Vector.Cost),.d (.int .i64 r.Vector.Age)]) []:=by
  refine pureC_m tOk (fn:=Try.f104) (c:=codeOf Try.f104) rfl rfl (by kernel_rfl) rfl rfl (by simp) (by simp) (ids_of rfl) ?_;unfold laws_toTreeWord_m at h;(conv=>whnf);obtain ⟨x1,hx1,h⟩:=bd_some h;refine callC 0 (laws_toTreeVector_c hx1) (by kernel_rfl) (by kernel_rfl) ?_;clear hx1;(conv=>whnf);obtain rfl:=Option.some.inj h;exact ⟨_,LE.refl _,And.intro rfl trivial⟩
end Go.Proofs.Ytbolhcpkpncmfab
