/-
  What some of the program's functions compute: their models, and that the functions compute these; no condition.
-/
import Derived.Test.YtbolhcpkpncmfabTyz
import Derived.Test.YtbolhcpkpncmfabTbz
set_option linter.all false
namespace Go.Proofs.Ytbolhcpkpncmfab
open Go Go.Ab
set_option maxRecDepth 100000
set_option maxHeartbeats 4000000
noncomputable def spec_l81Open_m (a0:(List Int)):Option (l81Rd) :=
(if (decide (((a0.length:Nat):Int) > 2000)) = true then
 gd ((0:Int)≤(0:Int)∧(0:Int)≤(2000:Int)∧(2000:Int)≤((a0.length:Nat):Int)) <|
 some (⟨a0.take ((2000:Int).toNat),0⟩:l81Rd)
else
 some (⟨a0,0⟩:l81Rd))
theorem spec_l81Open_c {a0:(List Int)} {r:l81Rd} (h:spec_l81Open_m a0 = some r):EffC Try.prog 69 [.d (slD encByte a0)] [] (.ref 5001 0 0) [(5001,.box 148 [.d (slD encByte r.b),.d (.int .i64 r.p)])]:=by
  refine effC_m tOk (fn:=Try.f69) (c:=codeOf Try.f69) rfl rfl (by kernel_rfl) rfl rfl rfl rfl ?_;unfold spec_l81Open_m at h;(conv=>whnf);refine seq_in tOk ?_;(conv=>whnf);refine And.intro (fun e=>?_) (fun e=>?_)
  · replace h:=ite_t h e; clear e;(conv=>whnf);obtain ⟨g1,h⟩:=gd_some h;refine And.intro ⟨g1,.inr rfl⟩ ?_;(conv=>whnf);obtain rfl:=Option.some.inj h;refine ⟨⟨0,11,[(2,.ref 5001 0 0)],[],[(5001,.box 148 [.d (slD encByte (a0.take ((2000:Int).toNat))),.d (.int .i64 0)])],[⟨[],[]⟩]⟩,?_,And.intro rfl (And.intro ?_ ?_)⟩
    · refine LE.trans (S':=⟨0,11,[(2,.ref 10 0 0)],[],[(10,.box 148 [.d (.sl ((2000:Int).toNat) (rows encByte a0)),.d (.int .i64 0)])],[⟨[],[]⟩]⟩) (le_mk ?_ ?_ ?_) (LE.trans (S':=⟨0,11,[(2,.ref 5001 0 0)],[],[(5001,.box 148 [.d (.sl ((2000:Int).toNat) (rows encByte a0)),.d (.int .i64 0)])],[⟨[],[]⟩]⟩) (le_swaps [(10,5001)] rfl) (le_mk ?_ ?_ ?_)) <;> exact leA
    · exact inA
    · exact inA
  · replace h:=ite_f h e; clear e;(conv=>whnf);obtain rfl:=Option.some.inj h;refine ⟨⟨0,11,[(2,.ref 5001 0 0)],[],[(5001,.box 148 [.d (slD encByte a0),.d (.int .i64 0)])],[⟨[],[]⟩]⟩,?_,And.intro rfl (And.intro ?_ ?_)⟩
    · refine LE.trans (S':=⟨0,11,[(2,.ref 10 0 0)],[],[(10,.box 148 [.d (slD encByte a0),.d (.int .i64 0)])],[⟨[],[]⟩]⟩) (le_mk ?_ ?_ ?_) (le_swaps [(10,5001)] rfl) <;> exact leA
    · exact inA
    · exact inA
noncomputable def spec_l81Rd_pick_m (a0:l81Rd) (a1:Int):Option (Int × l81Rd) :=
(if ((decide (a1<1)) || (((a0.b.length:Nat):Int) == 0)) = true then
 some (0,(⟨a0.b,IntKind.i64.wrap (a0.p+1)⟩:l81Rd))
else
(if (decide ((IntKind.i64.wrap ((IntKind.i64.wrap (a0.p+1)) - 1))<((a0.b.length:Nat):Int))) = true then
 gd ((0:Int)≤IntKind.i64.wrap ((IntKind.i64.wrap (a0.p+1)) - 1)∧IntKind.i64.wrap ((IntKind.i64.wrap (a0.p+1)) - 1)<((a0.b.length:Nat):Int)) <|
 gd ((a1:Int) ≠ 0) <|
 some (((IntKind.i64.wrap (a0.b.getD ((IntKind.i64.wrap ((IntKind.i64.wrap (a0.p+1)) - 1)).toNat) default):Int).tmod a1),(⟨a0.b,IntKind.i64.wrap (a0.p+1)⟩:l81Rd))
else
 gd ((((a0.b.length:Nat):Int):Int) ≠ 0) <|
 gd ((0:Int)≤((IntKind.i64.wrap ((IntKind.i64.wrap (a0.p+1)) - 1):Int).tmod ((a0.b.length:Nat):Int))∧((IntKind.i64.wrap ((IntKind.i64.wrap (a0.p+1)) - 1):Int).tmod ((a0.b.length:Nat):Int))<((a0.b.length:Nat):Int)) <|
 gd ((((a0.b.length:Nat):Int):Int) ≠ 0) <|
 gd ((0:Int)≤((IntKind.i64.wrap ((IntKind.i64.wrap ((IntKind.i64.wrap ((IntKind.i64.wrap (a0.p+1)) - 1)) * 7))+3):Int).tmod ((a0.b.length:Nat):Int))∧((IntKind.i64.wrap ((IntKind.i64.wrap ((IntKind.i64.wrap ((IntKind.i64.wrap (a0.p+1)) - 1)) * 7))+3):Int).tmod ((a0.b.length:Nat):Int))<((a0.b.length:Nat):Int)) <|
 gd ((((a0.b.length:Nat):Int):Int) ≠ 0) <|
 gd ((64:Int) ≠ 0) <|
 gd ((a1:Int) ≠ 0) <|
 some ((((bits .xor .i64 (IntKind.i64.wrap ((IntKind.i64.wrap ((IntKind.i64.wrap ((IntKind.i64.wrap ((IntKind.i64.wrap (a0.b.getD (((IntKind.i64.wrap ((IntKind.i64.wrap (a0.p+1)) - 1):Int).tmod ((a0.b.length:Nat):Int)).toNat) default)) * 131))+(IntKind.i64.wrap ((IntKind.i64.wrap (a0.b.getD (((IntKind.i64.wrap ((IntKind.i64.wrap ((IntKind.i64.wrap ((IntKind.i64.wrap (a0.p+1)) - 1)) * 7))+3):Int).tmod ((a0.b.length:Nat):Int)).toNat) default)) * 1117))))+(IntKind.i64.wrap ((IntKind.i64.wrap ((IntKind.i64.wrap (a0.p+1)) - 1)) * 29))))+(IntKind.i64.wrap ((IntKind.i64.wrap ((IntKind.i64.wrap ((IntKind.i64.wrap (a0.p+1)) - 1):Int).tdiv ((a0.b.length:Nat):Int))) * 53)))) (IntKind.i64.wrap ((IntKind.i64.wrap ((IntKind.i64.wrap ((IntKind.i64.wrap ((IntKind.i64.wrap ((IntKind.i64.wrap (a0.b.getD (((IntKind.i64.wrap ((IntKind.i64.wrap (a0.p+1)) - 1):Int).tmod ((a0.b.length:Nat):Int)).toNat) default)) * 131))+(IntKind.i64.wrap ((IntKind.i64.wrap (a0.b.getD (((IntKind.i64.wrap ((IntKind.i64.wrap ((IntKind.i64.wrap ((IntKind.i64.wrap (a0.p+1)) - 1)) * 7))+3):Int).tmod ((a0.b.length:Nat):Int)).toNat) default)) * 1117))))+(IntKind.i64.wrap ((IntKind.i64.wrap ((IntKind.i64.wrap (a0.p+1)) - 1)) * 29))))+(IntKind.i64.wrap ((IntKind.i64.wrap ((IntKind.i64.wrap ((IntKind.i64.wrap (a0.p+1)) - 1):Int).tdiv ((a0.b.length:Nat):Int))) * 53))):Int).tdiv 64))):Int).tmod a1),(⟨a0.b,IntKind.i64.wrap (a0.p+1)⟩:l81Rd))))
theorem spec_l81Rd_pick_c {a0:l81Rd} {a1:Int} {r:Int × l81Rd} (h:spec_l81Rd_pick_m a0 a1 = some r):EffC Try.prog 95 [.ref 9000 0 0,.d (.int .i64 a1)] [(9000,.box 148 [.d (slD encByte a0.b),.d (.int .i64 a0.p)])] (.d (.int .i64 r.1)) [(9000,.box 148 [.d (slD encByte a0.b),.d (.int .i64 r.2.p)])]:=by
  refine effC_m tOk (fn:=Try.f95) (c:=codeOf Try.f95) rfl rfl (by kernel_rfl) rfl rfl rfl rfl ?_;unfold spec_l81Rd_pick_m at h;(conv=>whnf);refine seq_in tOk ?_;(conv=>whnf);refine And.intro (fun e=>?_) (fun e=>?_)
  · replace h:=ite_t h e; clear e;(conv=>whnf);obtain rfl:=Option.some.inj h;refine ⟨⟨0,99,[(4,.d (.int .i64 0))],[],[(9000,.box 148 [.d (slD encByte a0.b),.d (.int .i64 (IntKind.i64.wrap (a0.p+1)))])],[⟨[(0,.ref 9000 0 0)],[]⟩]⟩,?_,And.intro rfl (And.intro ?_ ?_)⟩
    · refine le_mk ?_ ?_ ?_ <;> exact leA
    · exact inA
    · exact inA
  · replace h:=ite_f h e; clear e;(conv=>whnf);refine seq_in tOk ?_;(conv=>whnf);refine And.intro (fun e=>?_) (fun e=>?_)
    · replace h:=ite_t h e; clear e;(conv=>whnf);obtain ⟨g1,h⟩:=gd_some h;refine And.intro g1 ?_;clear g1;(conv=>whnf);obtain ⟨g2,h⟩:=gd_some h;refine And.intro g2 ?_;clear g2;(conv=>whnf);obtain rfl:=Option.some.inj h;refine ⟨⟨0,99,[(4,.d (.int .i64 ((IntKind.i64.wrap (a0.b.getD ((IntKind.i64.wrap ((IntKind.i64.wrap (a0.p+1)) - 1)).toNat) default):Int).tmod a1)))],[],[(9000,.box 148 [.d (slD encByte a0.b),.d (.int .i64 (IntKind.i64.wrap (a0.p+1)))])],[⟨[(0,.ref 9000 0 0)],[]⟩]⟩,?_,And.intro rfl (And.intro ?_ ?_)⟩
      · refine le_mk ?_ ?_ ?_ <;> exact leA
      · exact inA
      · exact inA
    · replace h:=ite_f h e; clear e;(conv=>whnf);obtain ⟨g3,h⟩:=gd_some h;obtain ⟨g4,h⟩:=gd_some h;obtain ⟨g5,h⟩:=gd_some h;obtain ⟨g6,h⟩:=gd_some h;obtain ⟨g7,h⟩:=gd_some h;refine draw_k tOk (by kernel_rfl) (fun _=>none) 46 [] [[],[true],[true,true],[true,true,true],[],[],[false,false,false,false,false,true],[false,false,false,false,false,true,true],[false,false,false,false,false,true,true,true],[false,false,false,false,false,true,true,true,true],[false,false,false,false,true,true,true,true,true,true],[true,true,true,true,true,true,true,true,true,true,true],[true,true,true,true,true,true,true,true,true,true,true,true],[true,true,true,true,true,true,true,true,true,true,true,true,true],[true,true,true,true,true,true,true,true,true,true,true,true,true,true],[],[false,false,false,false,false,false,false,false,false,false,false,false,false,false,false,true],[false,false,false,false,false,false,false,false,false,false,false,false,false,false,false,true,true],[false,false,false,false,false,false,false,false,false,false,false,false,false,false,false,true,true,true],[],[false,false,false,false,false,false,false,false,false,false,false,false,false,false,false,false,false,false,false,true],[false,false,false,false,false,false,false,false,false,false,false,false,false,false,false,false,false,false,false,true,true],[],[false,false,false,false,false,false,false,false,false,false,false,false,false,false,false,false,false,false,false,false,false,false,true],[false,false,false,false,false,false,false,false,false,false,false,false,false,false,false,false,false,false,false,false,false,false,true,true],[false,false,false,false,false,false,false,false,false,false,false,false,false,false,false,false,false,false,false,false,false,false,true,true,true],[false,false,false,false,false,false,false,false,false,false,false,false,false,false,false,false,false,false,false,false,false,false,true,true,true,true],[false,false,false,false,false,false,false,false,false,false,false,false,false,false,false,false,false,false,false,true,true,true,true,true,true,true,true],[false,false,false,false,false,false,false,false,false,false,false,false,false,false,false,true,true,true,true,true,true,true,true,true,true,true,true,true],[false,false,false,false,false,false,false,false,false,false,false,false,false,false,false,true,true,true,true,true,true,true,true,true,true,true,true,true,true],[false,false,false,false,false,false,false,false,false,false,false,false,false,false,false,true,true,true,true,true,true,true,true,true,true,true,true,true,true,true],[false,false,false,false,false,false,false,false,false,false,false,false,false,false,false,true,true,true,true,true,true,true,true,true,true,true,true,true,true,true,true],[true,true,true,true,true,true,true,true,true,true,true,true,true,true,true,true,true,true,true,true,true,true,true,true,true,true,true,true,true,true,true,true],[],[false,false,false,false,false,false,false,false,false,false,false,false,false,false,false,false,false,false,false,false,false,false,false,false,false,false,false,false,false,false,false,false,false,true],[true,true,true,true,true,true,true,true,true,true,true,true,true,true,true,true,true,true,true,true,true,true,true,true,true,true,true,true,true,true,true,true,true,true,true],[],[],[false,false,false,false,false,false,false,false,false,false,false,false,false,false,false,false,false,false,false,false,false,false,false,false,false,false,false,false,false,false,false,false,false,false,false,false,false,true],[false,false,false,false,false,false,false,false,false,false,false,false,false,false,false,false,false,false,false,false,false,false,false,false,false,false,false,false,false,false,false,false,false,false,false,false,false,true,true],[false,false,false,false,false,false,false,false,false,false,false,false,false,false,false,false,false,false,false,false,false,false,false,false,false,false,false,false,false,false,false,false,false,false,false,false,false,true,true,true],[false,false,false,false,false,false,false,false,false,false,false,false,false,false,false,false,false,false,false,false,false,false,false,false,false,false,false,false,false,false,false,false,false,false,false,false,false,true,true,true,true],[false,false,false,false,false,false,false,false,false,false,false,false,false,false,false,false,false,false,false,false,false,false,false,false,false,false,false,false,false,false,false,false,false,false,false,false,true,true,true,true,true,true],[false,false,false,false,false,false,false,false,false,false,false,false,false,false,false,false,false,false,false,false,false,false,false,false,false,false,false,false,false,false,false,false,false,false,false,false,true,true,true,true,true,true,true],[true,true,true,true,true,true,true,true,true,true,true,true,true,true,true,true,true,true,true,true,true,true,true,true,true,true,true,true,true,true,true,true,true,true,true,true,true,true,true,true,true,true,true,true],[true,true,true,true,true,true,true,true,true,true,true,true,true,true,true,true,true,true,true,true,true,true,true,true,true,true,true,true,true,true,true,true,true,true,true,true,true,true,true,true,true,true,true,true,true]] [] (by decide) (by kernel_rfl) (by kernel_rfl) ?_;(conv=>whnf);refine And.intro g3 ?_;clear g3;(conv=>whnf);refine And.intro g4 ?_;clear g4;(conv=>whnf);refine And.intro g5 ?_;clear g5;(conv=>whnf);refine And.intro g6 ?_;clear g6;(conv=>whnf);refine And.intro g7 ?_;clear g7;(conv=>whnf);refine And.intro (by kernel_rfl) ?_;(conv=>whnf);obtain ⟨g8,h⟩:=gd_some h;refine And.intro g8 ?_;clear g8;(conv=>whnf);obtain ⟨g9,h⟩:=gd_some h;refine And.intro g9 ?_;clear g9;(conv=>whnf);obtain rfl:=Option.some.inj h;refine ⟨⟨0,99,[(4,.d (.int .i64 (((bits .xor .i64 (IntKind.i64.wrap ((IntKind.i64.wrap ((IntKind.i64.wrap ((IntKind.i64.wrap ((IntKind.i64.wrap (a0.b.getD (((IntKind.i64.wrap ((IntKind.i64.wrap (a0.p+1)) - 1):Int).tmod ((a0.b.length:Nat):Int)).toNat) default)) * 131))+(IntKind.i64.wrap ((IntKind.i64.wrap (a0.b.getD (((IntKind.i64.wrap ((IntKind.i64.wrap ((IntKind.i64.wrap ((IntKind.i64.wrap (a0.p+1)) - 1)) * 7))+3):Int).tmod ((a0.b.length:Nat):Int)).toNat) default)) * 1117))))+(IntKind.i64.wrap ((IntKind.i64.wrap ((IntKind.i64.wrap (a0.p+1)) - 1)) * 29))))+(IntKind.i64.wrap ((IntKind.i64.wrap ((IntKind.i64.wrap ((IntKind.i64.wrap (a0.p+1)) - 1):Int).tdiv ((a0.b.length:Nat):Int))) * 53)))) (IntKind.i64.wrap ((IntKind.i64.wrap ((IntKind.i64.wrap ((IntKind.i64.wrap ((IntKind.i64.wrap ((IntKind.i64.wrap (a0.b.getD (((IntKind.i64.wrap ((IntKind.i64.wrap (a0.p+1)) - 1):Int).tmod ((a0.b.length:Nat):Int)).toNat) default)) * 131))+(IntKind.i64.wrap ((IntKind.i64.wrap (a0.b.getD (((IntKind.i64.wrap ((IntKind.i64.wrap ((IntKind.i64.wrap ((IntKind.i64.wrap (a0.p+1)) - 1)) * 7))+3):Int).tmod ((a0.b.length:Nat):Int)).toNat) default)) * 1117))))+(IntKind.i64.wrap ((IntKind.i64.wrap ((IntKind.i64.wrap (a0.p+1)) - 1)) * 29))))+(IntKind.i64.wrap ((IntKind.i64.wrap ((IntKind.i64.wrap ((IntKind.i64.wrap (a0.p+1)) - 1):Int).tdiv ((a0.b.length:Nat):Int))) * 53))):Int).tdiv 64))):Int).tmod a1)))],[],[(9000,.box 148 [.d (slD encByte a0.b),.d (.int .i64 (IntKind.i64.wrap (a0.p+1)))])],[⟨[(0,.ref 9000 0 0)],[]⟩]⟩,?_,And.intro rfl (And.intro ?_ ?_)⟩
      · refine le_mk ?_ ?_ ?_ <;> exact leA
      · exact inA
      · exact inA
noncomputable def spec_l82Has_m (a0:(List Int)) (a1:Int):Option (Bool) :=
 bd (lp (σ:=Int) (β:=(Unit ⊕ Unit)) (fun s1 =>
(if (decide (s1<((a0.length:Nat):Int))) = true then
 gd ((0:Int)≤s1∧s1<((a0.length:Nat):Int)) <|
(if ((a0.getD s1.toNat default) == a1) = true then
 some (.inr (.inl ()))
else
 some (.inl (IntKind.i64.wrap (s1+1))))
else
 some (.inr (.inr ())))) 0) fun x4 =>
(match x4 with
| .inl d6 =>
 some true
| .inr d7 =>
 some false)
theorem spec_l82Has_c {a0:(List Int)} {a1:Int} {r:Bool} (h:spec_l82Has_m a0 a1 = some r):PureC Try.prog 128 [.d (slD encInt a0),.d (.int .i64 a1)] (.d (.bool r)) []:=by
  refine pureC_m tOk (fn:=Try.f128) (c:=codeOf Try.f128) rfl rfl (by kernel_rfl) rfl rfl (by simp) (by simp) (ids_of rfl) ?_;unfold spec_l82Has_m at h;(conv=>whnf);refine seq_in tOk ?_;(conv=>whnf);obtain ⟨x4,hx4,h⟩:=bd_some h;refine loop_m tOk hx4 (fun s1=>⟨0,18,[(0,.d (slD encInt a0)),(1,.d (.int .i64 a1)),(5,.d (.int .i64 s1))],[],[],[]⟩) ?_ ?_
  · refine le_mk ?_ ?_ ?_ <;> exact leA
  · clear hx4;intro s1 y2 g3 hy2;(conv=>whnf);refine seq_in tOk ?_;(conv=>whnf);refine And.intro (fun e=>?_) (fun e=>?_)
    · replace g3:=ite_t g3 e; clear e;(conv=>whnf);refine seq_in tOk ?_;(conv=>whnf);obtain ⟨g5,g3⟩:=gd_some g3;refine And.intro g5 ?_;clear g5;(conv=>whnf);refine And.intro (fun e=>?_) (fun e=>?_)
      · replace g3:=ite_t g3 e; clear e;(conv=>whnf);obtain rfl:=Option.some.inj g3;obtain rfl:=hy2 _ rfl;obtain rfl:=Option.some.inj h;exact ⟨_,LE.refl _,And.intro rfl trivial⟩
      · replace g3:=ite_f g3 e; clear e;(conv=>whnf);obtain rfl:=Option.some.inj g3;refine ⟨_,rfl,le_mk ?_ ?_ ?_⟩ <;> exact leA
    · replace g3:=ite_f g3 e; clear e;(conv=>whnf);obtain rfl:=Option.some.inj g3;obtain rfl:=hy2 _ rfl;obtain rfl:=Option.some.inj h;exact ⟨_,LE.refl _,And.intro rfl trivial⟩
noncomputable def spec_l85Ids_m (a0:l81Rd) (a1:Int):Option ((List Int) × l81Rd) :=
 bd (lp (σ:=List Int × Int) (β:=(Nat × (List Int) × Int)) (fun s1 =>
(if (decide (((s1.1.length:Nat):Int)<a1)) = true then
 bd (spec_l81Rd_pick_m (⟨a0.b,s1.2⟩:l81Rd) 1000) fun x5 =>
 bd (α:=Int × Int) (bd (spec_l81Rd_pick_m (⟨a0.b,x5.2.p⟩:l81Rd) 3) fun x9 =>
(if (x9.1 == 0) = true then
 bd (spec_l81Rd_pick_m (⟨a0.b,x9.2.p⟩:l81Rd) 4) fun x10 =>
 gd ((0:Int)≤x10.1∧x10.1<((([1,1000,7,500]:List Int).length:Nat):Int)) <|
 some (x10.2.p,(([1,1000,7,500]:List Int).getD x10.1.toNat default))
else
 some (x9.2.p,IntKind.i64.wrap (1+x5.1)))) fun x6 =>
 bd (lp (σ:=Int) (β:=(Int)) (fun s12 =>
 bd (spec_l82Has_m s1.1 s12) fun x16 =>
(if x16 = true then
 gd ((1000:Int) ≠ 0) <|
 some (.inl (IntKind.i64.wrap (((s12:Int).tmod 1000)+1)))
else
 some (.inr s12))) x6.2) fun x15 =>
 gd (((s1.1.length)+(([x15]:List Int).length)) * (8+1)≤70368744177664) <|
 some (.inl ((s1.1 ++ ([x15]:List Int)),x6.1))
else
 some (.inr (s1.1.length,s1.1,s1.2)))) (([]:List Int),a0.p)) fun x4 =>
 some (x4.2.1,(⟨a0.b,x4.2.2⟩:l81Rd))
theorem spec_l85Ids_c {a0:l81Rd} {a1:Int} {r:(List Int) × l81Rd} (h:spec_l85Ids_m a0 a1 = some r):EffC Try.prog 158 [.ref 9000 0 0,.d (.int .i64 a1)] [(9000,.box 148 [.d (slD encByte a0.b),.d (.int .i64 a0.p)])] (.osl 5001 0 r.1.length) [(9000,.box 148 [.d (slD encByte a0.b),.d (.int .i64 r.2.p)]),(5001,.arr 3 1 r.1.length (rows encInt r.1))]:=by
  refine effC_m tOk (fn:=Try.f158) (c:=codeOf Try.f158) rfl rfl (by kernel_rfl) rfl rfl rfl rfl ?_;unfold spec_l85Ids_m at h;(conv=>whnf);refine seq_in tOk ?_;(conv=>whnf);obtain ⟨x4,hx4,h⟩:=bd_some h;refine loop_m tOk hx4 (fun s1=>⟨0,34,[(0,.ref 9000 0 0),(1,.d (.int .i64 a1)),(5,.osl 7001 0 s1.1.length)],[],[(7001,.arr 3 1 s1.1.length (rows encInt s1.1)),(9000,.box 148 [.d (slD encByte a0.b),.d (.int .i64 s1.2)])],[⟨[(0,.ref 9000 0 0)],[]⟩]⟩) ?_ ?_
  · refine LE.trans (S':=⟨0,34,[(0,.ref 9000 0 0),(1,.d (.int .i64 a1)),(5,.d (.nil))],[],[(9000,.box 148 [.d (slD encByte a0.b),.d (.int .i64 a0.p)])],[⟨[(0,.ref 9000 0 0)],[]⟩]⟩) (le_mk ?_ ?_ ?_) (LE.trans (S':=⟨0,34,[(0,.ref 9000 0 0),(1,.d (.int .i64 a1)),(5,.d (.nil))],[],[(7001,.arr 3 1 (([]:List Int).length) (rows encInt ([]:List Int))),(9000,.box 148 [.d (slD encByte a0.b),.d (.int .i64 a0.p)])],[⟨[(0,.ref 9000 0 0)],[]⟩]⟩) (le_ph 7001 3 1 (rows encInt ([]:List Int)) rfl rfl) (le_mk ?_ ?_ ?_)) <;> exact leA
  · clear hx4;intro s1 y2 g3 hy2;(conv=>whnf);refine seq_in tOk ?_;(conv=>whnf);refine And.intro (fun e=>?_) (fun e=>?_)
    · replace g3:=ite_t g3 e; clear e;(conv=>whnf);obtain ⟨x5,hx5,g3⟩:=bd_some g3;refine callE [(9000,9000)] 0 (spec_l81Rd_pick_c hx5) argA inA rfl rfl ?_;(conv=>whnf);obtain ⟨x6,hx6,g3⟩:=bd_some g3;refine seq_join tOk (fun s7=>⟨0,34,[(0,.ref 9000 0 0),(1,.d (.int .i64 a1)),(5,.osl 7001 0 s1.1.length),(6,.d (.int .i64 s7.2))],[],[(7001,.arr 3 1 s1.1.length (rows encInt s1.1)),(9000,.box 148 [.d (slD encByte a0.b),.d (.int .i64 s7.1)])],[⟨[(0,.ref 9000 0 0)],[]⟩]⟩) (fun s7=>x6 = s7) ?_ ?_
      · (conv=>whnf);obtain ⟨x9,hx9,hx6⟩:=bd_some hx6;refine callE [(9000,9000)] 0 (spec_l81Rd_pick_c hx9) argA inA rfl rfl ?_;(conv=>whnf);refine And.intro (fun e=>?_) (fun e=>?_)
        · replace hx6:=ite_t hx6 e; clear e;(conv=>whnf);refine ⟨([1,1000,7,500]:List Int).length,rows encInt ([1,1000,7,500]:List Int),rfl,build_rows,?_⟩;(conv=>whnf);obtain ⟨x10,hx10,hx6⟩:=bd_some hx6;refine callE [(9000,9000)] 0 (spec_l81Rd_pick_c hx10) argA inA rfl rfl ?_;(conv=>whnf);obtain ⟨g11,hx6⟩:=gd_some hx6;refine And.intro g11 ?_;clear g11;(conv=>whnf);obtain rfl:=Option.some.inj hx6;refine ⟨_,rfl,le_mk ?_ ?_ ?_⟩ <;> exact leA
        · replace hx6:=ite_f hx6 e; clear e;(conv=>whnf);obtain rfl:=Option.some.inj hx6;refine ⟨_,rfl,le_mk ?_ ?_ ?_⟩ <;> exact leA
      · rintro _ rfl;(conv=>whnf);refine seq_in tOk ?_;(conv=>whnf);obtain ⟨x15,hx15,g3⟩:=bd_some g3;refine loop_m tOk hx15 (fun s12=>⟨0,34,[(0,.ref 9000 0 0),(1,.d (.int .i64 a1)),(5,.osl 7001 0 s1.1.length),(6,.d (.int .i64 s12))],[],[(7001,.arr 3 1 s1.1.length (rows encInt s1.1)),(9000,.box 148 [.d (slD encByte a0.b),.d (.int .i64 x6.1)])],[⟨[(0,.ref 9000 0 0)],[]⟩]⟩) ?_ ?_
        · refine le_mk ?_ ?_ ?_ <;> exact leA
        · clear hx15;intro s12 y13 g14 hy13;(conv=>whnf);refine seq_in tOk ?_;(conv=>whnf);obtain ⟨x16,hx16,g14⟩:=bd_some g14;refine callC 0 (spec_l82Has_c hx16) (by kernel_rfl) (by kernel_rfl) ?_;clear hx16;(conv=>whnf);refine And.intro (fun e=>?_) (fun e=>?_)
          · replace g14:=ite_t g14 e; clear e;(conv=>whnf);obtain ⟨g17,g14⟩:=gd_some g14;refine And.intro g17 ?_;clear g17;(conv=>whnf);obtain rfl:=Option.some.inj g14;refine ⟨_,rfl,le_mk ?_ ?_ ?_⟩ <;> exact leA
          · replace g14:=ite_f g14 e; clear e;(conv=>whnf);obtain rfl:=Option.some.inj g14;obtain rfl:=hy13 _ rfl;refine ⟨([s12]:List Int).length,rows encInt ([s12]:List Int),rfl,build_rows,?_⟩;(conv=>whnf);obtain ⟨g19,g3⟩:=gd_some g3;refine And.intro g19 ?_;clear g19;refine ⟨(s1.1 ++ ([s12]:List Int)).length,rows encInt (s1.1 ++ ([s12]:List Int)),lenA,(by first | exact app_rows (m:=([s12]:List Int).length) (by first | rfl | (simp; done) | assumption | (simp [dsub_eq] <;> omega) | omega) (by first | rfl | (simp; done) | assumption | (simp [dsub_eq] <;> omega) | omega) (fun _ _=>rfl) (fun _ _=>rfl) | exact app_rows0 (m:=([s12]:List Int).length) (by first | rfl | (simp; done) | assumption | (simp [dsub_eq] <;> omega) | omega) (fun _ _=>rfl) | exact app_rows (m:=([s12]:List Int).length) (by first | rfl | (simp; done) | assumption | (simp [dsub_eq] <;> omega) | omega) (by first | rfl | (simp; done) | assumption | (simp [dsub_eq] <;> omega) | omega) (by first | exact fun _ _=>rfl | exact rows_take | (intro i hi; simp only [viewRow_eq,addOff_eq,Int.toNat_zero,Nat.zero_add,Nat.add_zero]; exact rows_take i hi) | exact rows_vt | exact rows_dt | (intro i hi; simp only [viewRow_eq,Nat.zero_add]) | (intro i hi; simp [viewRow_eq])) (by first | exact fun _ _=>rfl | exact rows_take | (intro i hi; simp only [viewRow_eq,addOff_eq,Int.toNat_zero,Nat.zero_add,Nat.add_zero]; exact rows_take i hi) | exact rows_vt | exact rows_dt | (intro i hi; simp only [viewRow_eq,Nat.zero_add]) | (intro i hi; simp [viewRow_eq])) | exact app_rows0 (m:=([s12]:List Int).length) (by first | rfl | (simp; done) | assumption | (simp [dsub_eq] <;> omega) | omega) (by first | exact fun _ _=>rfl | exact rows_take | (intro i hi; simp only [viewRow_eq,addOff_eq,Int.toNat_zero,Nat.zero_add,Nat.add_zero]; exact rows_take i hi) | exact rows_vt | exact rows_dt | (intro i hi; simp only [viewRow_eq,Nat.zero_add]) | (intro i hi; simp [viewRow_eq]))),?_⟩;(conv=>whnf);obtain rfl:=Option.some.inj g3;refine ⟨_,rfl,le_mk ?_ ?_ ?_⟩ <;> exact leA
    · replace g3:=ite_f g3 e; clear e;(conv=>whnf);obtain rfl:=Option.some.inj g3;obtain rfl:=hy2 _ rfl;obtain rfl:=Option.some.inj h;refine ⟨⟨0,34,[(4,.osl 5001 0 (s1.1.length,s1.1,s1.2).2.1.length)],[],[(5001,.arr 3 1 (s1.1.length,s1.1,s1.2).2.1.length (rows encInt (s1.1.length,s1.1,s1.2).2.1)),(9000,.box 148 [.d (slD encByte a0.b),.d (.int .i64 (s1.1.length,s1.1,s1.2).2.2)])],[⟨[(0,.ref 9000 0 0)],[]⟩]⟩,?_,And.intro rfl (And.intro ?_ ?_)⟩
      · refine LE.trans (S':=⟨0,34,[(4,.osl 7001 0 (s1.1.length,s1.1,s1.2).1)],[],[(7001,.arr 3 1 (s1.1.length,s1.1,s1.2).1 (rows encInt (s1.1.length,s1.1,s1.2).2.1)),(9000,.box 148 [.d (slD encByte a0.b),.d (.int .i64 (s1.1.length,s1.1,s1.2).2.2)])],[⟨[(0,.ref 9000 0 0)],[]⟩]⟩) (le_mk ?_ ?_ ?_) (LE.trans (S':=⟨0,34,[(4,.osl 5001 0 (s1.1.length,s1.1,s1.2).1)],[],[(5001,.arr 3 1 (s1.1.length,s1.1,s1.2).1 (rows encInt (s1.1.length,s1.1,s1.2).2.1)),(9000,.box 148 [.d (slD encByte a0.b),.d (.int .i64 (s1.1.length,s1.1,s1.2).2.2)])],[⟨[(0,.ref 9000 0 0)],[]⟩]⟩) (le_swaps [(7001,5001)] rfl) (le_mk ?_ ?_ ?_)) <;> exact leA
      · exact inA
      · exact inA
noncomputable def spec_l85Links_m (a0:l81Rd) (a1:Int):Option ((List TreeLink) × l81Rd) :=
 bd (lp (σ:=List TreeLink × Int × Int) (β:=(Nat × (List TreeLink) × Int)) (fun s1 =>
(if (decide ((IntKind.i64.wrap (s1.2.2+1))<a1)) = true then
 bd (spec_l81Rd_pick_m (⟨a0.b,s1.2.1⟩:l81Rd) 10) fun x5 =>
(if (decide (x5.1 > 0)) = true then
 bd (spec_l81Rd_pick_m (⟨a0.b,x5.2.p⟩:l81Rd) 4) fun x6 =>
 gd (((s1.1.length)+(([(⟨s1.2.2,IntKind.i64.wrap (s1.2.2+1),IntKind.i64.wrap (1+x6.1)⟩:TreeLink)]:List TreeLink).length)) * (24+1)≤70368744177664) <|
 some (.inl ((s1.1 ++ ([(⟨s1.2.2,IntKind.i64.wrap (s1.2.2+1),IntKind.i64.wrap (1+x6.1)⟩:TreeLink)]:List TreeLink)),x6.2.p,IntKind.i64.wrap (s1.2.2+1)))
else
 some (.inl (s1.1,x5.2.p,IntKind.i64.wrap (s1.2.2+1))))
else
 some (.inr (s1.1.length,s1.1,s1.2.1)))) (([]:List TreeLink),a0.p,0)) fun x4 =>
 bd (spec_l81Rd_pick_m (⟨a0.b,x4.2.2⟩:l81Rd) 6) fun x9 =>
 bd (lp (σ:=List TreeLink × Int × Int) (β:=(Nat × (List TreeLink) × Int)) (fun s10 =>
(if (((decide (s10.2.2 > 0)) && (decide (a1 > 1))) && (decide (((s10.1.length:Nat):Int)<12))) = true then
 bd (spec_l81Rd_pick_m (⟨a0.b,s10.2.1⟩:l81Rd) (IntKind.i64.wrap (a1 - 1))) fun x14 =>
 bd (spec_l81Rd_pick_m (⟨a0.b,x14.2.p⟩:l81Rd) (IntKind.i64.wrap ((IntKind.i64.wrap (a1 - 1)) - x14.1))) fun x15 =>
 bd (spec_l81Rd_pick_m (⟨a0.b,x15.2.p⟩:l81Rd) 4) fun x16 =>
 gd ((0:Int)≤x16.1∧x16.1<((([1,2,3,50]:List Int).length:Nat):Int)) <|
 gd (((s10.1.length)+(([(⟨x14.1,IntKind.i64.wrap ((IntKind.i64.wrap (x14.1+1))+x15.1),(([1,2,3,50]:List Int).getD x16.1.toNat default)⟩:TreeLink)]:List TreeLink).length)) * (24+1)≤70368744177664) <|
 some (.inl ((s10.1 ++ ([(⟨x14.1,IntKind.i64.wrap ((IntKind.i64.wrap (x14.1+1))+x15.1),(([1,2,3,50]:List Int).getD x16.1.toNat default)⟩:TreeLink)]:List TreeLink)),x16.2.p,IntKind.i64.wrap (s10.2.2 - 1)))
else
 some (.inr (s10.1.length,s10.1,s10.2.1)))) (x4.2.1,x9.2.p,x9.1)) fun x13 =>
 some (x13.2.1,(⟨a0.b,x13.2.2⟩:l81Rd))
theorem spec_l85Links_c {a0:l81Rd} {a1:Int} {r:(List TreeLink) × l81Rd} (h:spec_l85Links_m a0 a1 = some r):EffC Try.prog 159 [.ref 9000 0 0,.d (.int .i64 a1)] [(9000,.box 148 [.d (slD encByte a0.b),.d (.int .i64 a0.p)])] (.osl 5001 0 r.1.length) [(9000,.box 148 [.d (slD encByte a0.b),.d (.int .i64 r.2.p)]),(5001,.arr 61 3 r.1.length (rows TreeLink.enc r.1))]:=by
  refine effC_m tOk (fn:=Try.f159) (c:=codeOf Try.f159) rfl rfl (by kernel_rfl) rfl rfl rfl rfl ?_;unfold spec_l85Links_m at h;(conv=>whnf);refine seq_in tOk ?_;(conv=>whnf);obtain ⟨x4,hx4,h⟩:=bd_some h;refine loop_m tOk hx4 (fun s1=>⟨0,70,[(0,.ref 9000 0 0),(1,.d (.int .i64 a1)),(5,.osl 7001 0 s1.1.length),(6,.d (.int .i64 s1.2.2))],[],[(7001,.arr 61 3 s1.1.length (rows TreeLink.enc s1.1)),(9000,.box 148 [.d (slD encByte a0.b),.d (.int .i64 s1.2.1)])],[⟨[(0,.ref 9000 0 0)],[]⟩]⟩) ?_ ?_
  · refine LE.trans (S':=⟨0,70,[(0,.ref 9000 0 0),(1,.d (.int .i64 a1)),(5,.d (.nil)),(6,.d (.int .i64 0))],[],[(9000,.box 148 [.d (slD encByte a0.b),.d (.int .i64 a0.p)])],[⟨[(0,.ref 9000 0 0)],[]⟩]⟩) (le_mk ?_ ?_ ?_) (LE.trans (S':=⟨0,70,[(0,.ref 9000 0 0),(1,.d (.int .i64 a1)),(5,.d (.nil)),(6,.d (.int .i64 0))],[],[(7001,.arr 61 3 (([]:List TreeLink).length) (rows TreeLink.enc ([]:List TreeLink))),(9000,.box 148 [.d (slD encByte a0.b),.d (.int .i64 a0.p)])],[⟨[(0,.ref 9000 0 0)],[]⟩]⟩) (le_ph 7001 61 3 (rows TreeLink.enc ([]:List TreeLink)) rfl rfl) (le_mk ?_ ?_ ?_)) <;> exact leA
  · clear hx4;intro s1 y2 g3 hy2;(conv=>whnf);refine seq_in tOk ?_;(conv=>whnf);refine And.intro (fun e=>?_) (fun e=>?_)
    · replace g3:=ite_t g3 e; clear e;(conv=>whnf);refine seq_in tOk ?_;(conv=>whnf);obtain ⟨x5,hx5,g3⟩:=bd_some g3;refine callE [(9000,9000)] 0 (spec_l81Rd_pick_c hx5) argA inA rfl rfl ?_;(conv=>whnf);refine And.intro (fun e=>?_) (fun e=>?_)
      · replace g3:=ite_t g3 e; clear e;(conv=>whnf);obtain ⟨x6,hx6,g3⟩:=bd_some g3;refine callE [(9000,9000)] 0 (spec_l81Rd_pick_c hx6) argA inA rfl rfl ?_;(conv=>whnf);refine ⟨([(⟨s1.2.2,IntKind.i64.wrap (s1.2.2+1),IntKind.i64.wrap (1+x6.1)⟩:TreeLink)]:List TreeLink).length,rows TreeLink.enc ([(⟨s1.2.2,IntKind.i64.wrap (s1.2.2+1),IntKind.i64.wrap (1+x6.1)⟩:TreeLink)]:List TreeLink),rfl,build_rows,?_⟩;(conv=>whnf);obtain ⟨g7,g3⟩:=gd_some g3;refine And.intro g7 ?_;clear g7;refine ⟨(s1.1 ++ ([(⟨s1.2.2,IntKind.i64.wrap (s1.2.2+1),IntKind.i64.wrap (1+x6.1)⟩:TreeLink)]:List TreeLink)).length,rows TreeLink.enc (s1.1 ++ ([(⟨s1.2.2,IntKind.i64.wrap (s1.2.2+1),IntKind.i64.wrap (1+x6.1)⟩:TreeLink)]:List TreeLink)),lenA,(by first | exact app_rows (m:=([(⟨s1.2.2,IntKind.i64.wrap (s1.2.2+1),IntKind.i64.wrap (1+x6.1)⟩:TreeLink)]:List TreeLink).length) (by first | rfl | (simp; done) | assumption | (simp [dsub_eq] <;> omega) | omega) (by first | rfl | (simp; done) | assumption | (simp [dsub_eq] <;> omega) | omega) (fun _ _=>rfl) (fun _ _=>rfl) | exact app_rows0 (m:=([(⟨s1.2.2,IntKind.i64.wrap (s1.2.2+1),IntKind.i64.wrap (1+x6.1)⟩:TreeLink)]:List TreeLink).length) (by first | rfl | (simp; done) | assumption | (simp [dsub_eq] <;> omega) | omega) (fun _ _=>rfl) | exact app_rows (m:=([(⟨s1.2.2,IntKind.i64.wrap (s1.2.2+1),IntKind.i64.wrap (1+x6.1)⟩:TreeLink)]:List TreeLink).length) (by first | rfl | (simp; done) | assumption | (simp [dsub_eq] <;> omega) | omega) (by first | rfl | (simp; done) | assumption | (simp [dsub_eq] <;> omega) | omega) (by first | exact fun _ _=>rfl | exact rows_take | (intro i hi; simp only [viewRow_eq,addOff_eq,Int.toNat_zero,Nat.zero_add,Nat.add_zero]; exact rows_take i hi) | exact rows_vt | exact rows_dt | (intro i hi; simp only [viewRow_eq,Nat.zero_add]) | (intro i hi; simp [viewRow_eq])) (by first | exact fun _ _=>rfl | exact rows_take | (intro i hi; simp only [viewRow_eq,addOff_eq,Int.toNat_zero,Nat.zero_add,Nat.add_zero]; exact rows_take i hi) | exact rows_vt | exact rows_dt | (intro i hi; simp only [viewRow_eq,Nat.zero_add]) | (intro i hi; simp [viewRow_eq])) | exact app_rows0 (m:=([(⟨s1.2.2,IntKind.i64.wrap (s1.2.2+1),IntKind.i64.wrap (1+x6.1)⟩:TreeLink)]:List TreeLink).length) (by first | rfl | (simp; done) | assumption | (simp [dsub_eq] <;> omega) | omega) (by first | exact fun _ _=>rfl | exact rows_take | (intro i hi; simp only [viewRow_eq,addOff_eq,Int.toNat_zero,Nat.zero_add,Nat.add_zero]; exact rows_take i hi) | exact rows_vt | exact rows_dt | (intro i hi; simp only [viewRow_eq,Nat.zero_add]) | (intro i hi; simp [viewRow_eq]))),?_⟩;(conv=>whnf);obtain rfl:=Option.some.inj g3;refine ⟨_,rfl,le_mk ?_ ?_ ?_⟩ <;> exact leA
      · replace g3:=ite_f g3 e; clear e;(conv=>whnf);obtain rfl:=Option.some.inj g3;refine ⟨_,rfl,le_mk ?_ ?_ ?_⟩ <;> exact leA
    · replace g3:=ite_f g3 e; clear e;(conv=>whnf);obtain rfl:=Option.some.inj g3;obtain rfl:=hy2 _ rfl;refine seq_in tOk ?_;(conv=>whnf);obtain ⟨x9,hx9,h⟩:=bd_some h;refine callE [(9000,9000)] 0 (spec_l81Rd_pick_c hx9) argA inA rfl rfl ?_;(conv=>whnf);obtain ⟨x13,hx13,h⟩:=bd_some h;refine loop_m tOk hx13 (fun s10=>⟨0,70,[(0,.ref 9000 0 0),(1,.d (.int .i64 a1)),(5,.osl 7001 0 s10.1.length),(7,.d (.int .i64 s10.2.2))],[],[(7001,.arr 61 3 s10.1.length (rows TreeLink.enc s10.1)),(9000,.box 148 [.d (slD encByte a0.b),.d (.int .i64 s10.2.1)])],[⟨[(0,.ref 9000 0 0)],[]⟩]⟩) ?_ ?_
      · refine le_mk ?_ ?_ ?_ <;> exact leA
      · clear hx13;intro s10 y11 g12 hy11;(conv=>whnf);refine seq_in tOk ?_;(conv=>whnf);refine And.intro (fun e=>?_) (fun e=>?_)
        · replace g12:=ite_t g12 e; clear e;(conv=>whnf);refine seq_in tOk ?_;(conv=>whnf);obtain ⟨x14,hx14,g12⟩:=bd_some g12;refine callE [(9000,9000)] 0 (spec_l81Rd_pick_c hx14) argA inA rfl rfl ?_;(conv=>whnf);obtain ⟨x15,hx15,g12⟩:=bd_some g12;refine callE [(9000,9000)] 0 (spec_l81Rd_pick_c hx15) argA inA rfl rfl ?_;(conv=>whnf);refine ⟨([1,2,3,50]:List Int).length,rows encInt ([1,2,3,50]:List Int),rfl,build_rows,?_⟩;(conv=>whnf);obtain ⟨x16,hx16,g12⟩:=bd_some g12;refine callE [(9000,9000)] 0 (spec_l81Rd_pick_c hx16) argA inA rfl rfl ?_;(conv=>whnf);obtain ⟨g17,g12⟩:=gd_some g12;refine And.intro g17 ?_;clear g17;(conv=>whnf);refine ⟨([(⟨x14.1,IntKind.i64.wrap ((IntKind.i64.wrap (x14.1+1))+x15.1),(([1,2,3,50]:List Int).getD x16.1.toNat default)⟩:TreeLink)]:List TreeLink).length,rows TreeLink.enc ([(⟨x14.1,IntKind.i64.wrap ((IntKind.i64.wrap (x14.1+1))+x15.1),(([1,2,3,50]:List Int).getD x16.1.toNat default)⟩:TreeLink)]:List TreeLink),rfl,build_rows,?_⟩;(conv=>whnf);obtain ⟨g18,g12⟩:=gd_some g12;refine And.intro g18 ?_;clear g18;refine ⟨(s10.1 ++ ([(⟨x14.1,IntKind.i64.wrap ((IntKind.i64.wrap (x14.1+1))+x15.1),(([1,2,3,50]:List Int).getD x16.1.toNat default)⟩:TreeLink)]:List TreeLink)).length,rows TreeLink.enc (s10.1 ++ ([(⟨x14.1,IntKind.i64.wrap ((IntKind.i64.wrap (x14.1+1))+x15.1),(([1,2,3,50]:List Int).getD x16.1.toNat default)⟩:TreeLink)]:List TreeLink)),lenA,(by first | exact app_rows (m:=([(⟨x14.1,IntKind.i64.wrap ((IntKind.i64.wrap (x14.1+1))+x15.1),(([1,2,3,50]:List Int).getD x16.1.toNat default)⟩:TreeLink)]:List TreeLink).length) (by first | rfl | (simp; done) | assumption | (simp [dsub_eq] <;> omega) | omega) (by first | rfl | (simp; done) | assumption | (simp [dsub_eq] <;> omega) | omega) (fun _ _=>rfl) (fun _ _=>rfl) | exact app_rows0 (m:=([(⟨x14.1,IntKind.i64.wrap ((IntKind.i64.wrap (x14.1+1))+x15.1),(([1,2,3,50]:List Int).getD x16.1.toNat default)⟩:TreeLink)]:List TreeLink).length) (by first | rfl | (simp; done) | assumption | (simp [dsub_eq] <;> omega) | omega) (fun _ _=>rfl) | exact app_rows (m:=([(⟨x14.1,IntKind.i64.wrap ((IntKind.i64.wrap (x14.1+1))+x15.1),(([1,2,3,50]:List Int).getD x16.1.toNat default)⟩:TreeLink)]:List TreeLink).length) (by first | rfl | (simp; done) | assumption | (simp [dsub_eq] <;> omega) | omega) (by first | rfl | (simp; done) | assumption | (simp [dsub_eq] <;> omega) | omega) (by first | exact fun _ _=>rfl | exact rows_take | (intro i hi; simp only [viewRow_eq,addOff_eq,Int.toNat_zero,Nat.zero_add,Nat.add_zero]; exact rows_take i hi) | exact rows_vt | exact rows_dt | (intro i hi; simp only [viewRow_eq,Nat.zero_add]) | (intro i hi; simp [viewRow_eq])) (by first | exact fun _ _=>rfl | exact rows_take | (intro i hi; simp only [viewRow_eq,addOff_eq,Int.toNat_zero,Nat.zero_add,Nat.add_zero]; exact rows_take i hi) | exact rows_vt | exact rows_dt | (intro i hi; simp only [viewRow_eq,Nat.zero_add]) | (intro i hi; simp [viewRow_eq])) | exact app_rows0 (m:=([(⟨x14.1,IntKind.i64.wrap ((IntKind.i64.wrap (x14.1+1))+x15.1),(([1,2,3,50]:List Int).getD x16.1.toNat default)⟩:TreeLink)]:List TreeLink).length) (by first | rfl | (simp; done) | assumption | (simp [dsub_eq] <;> omega) | omega) (by first | exact fun _ _=>rfl | exact rows_take | (intro i hi; simp only [viewRow_eq,addOff_eq,Int.toNat_zero,Nat.zero_add,Nat.add_zero]; exact rows_take i hi) | exact rows_vt | exact rows_dt | (intro i hi; simp only [viewRow_eq,Nat.zero_add]) | (intro i hi; simp [viewRow_eq]))),?_⟩;(conv=>whnf);obtain rfl:=Option.some.inj g12;refine ⟨_,rfl,le_mk ?_ ?_ ?_⟩ <;> exact leA
        · replace g12:=ite_f g12 e; clear e;(conv=>whnf);obtain rfl:=Option.some.inj g12;obtain rfl:=hy11 _ rfl;obtain rfl:=Option.some.inj h;refine ⟨⟨0,70,[(4,.osl 5001 0 (s10.1.length,s10.1,s10.2.1).2.1.length)],[],[(5001,.arr 61 3 (s10.1.length,s10.1,s10.2.1).2.1.length (rows TreeLink.enc (s10.1.length,s10.1,s10.2.1).2.1)),(9000,.box 148 [.d (slD encByte a0.b),.d (.int .i64 (s10.1.length,s10.1,s10.2.1).2.2)])],[⟨[(0,.ref 9000 0 0)],[]⟩]⟩,?_,And.intro rfl (And.intro ?_ ?_)⟩
          · refine LE.trans (S':=⟨0,70,[(4,.osl 7001 0 (s10.1.length,s10.1,s10.2.1).1)],[],[(7001,.arr 61 3 (s10.1.length,s10.1,s10.2.1).1 (rows TreeLink.enc (s10.1.length,s10.1,s10.2.1).2.1)),(9000,.box 148 [.d (slD encByte a0.b),.d (.int .i64 (s10.1.length,s10.1,s10.2.1).2.2)])],[⟨[(0,.ref 9000 0 0)],[]⟩]⟩) (le_mk ?_ ?_ ?_) (LE.trans (S':=⟨0,70,[(4,.osl 5001 0 (s10.1.length,s10.1,s10.2.1).1)],[],[(5001,.arr 61 3 (s10.1.length,s10.1,s10.2.1).1 (rows TreeLink.enc (s10.1.length,s10.1,s10.2.1).2.1)),(9000,.box 148 [.d (slD encByte a0.b),.d (.int .i64 (s10.1.length,s10.1,s10.2.1).2.2)])],[⟨[(0,.ref 9000 0 0)],[]⟩]⟩) (le_swaps [(7001,5001)] rfl) (le_mk ?_ ?_ ?_)) <;> exact leA
          · exact inA
          · exact inA
noncomputable def spec_l81In_m (a0:Int) (a1:Int) (a2:Int):Option (Bool) :=
 some ((decide (a0 ≥ a1)) && (decide (a0≤a2)))
theorem spec_l81In_c {a0:Int} {a1:Int} {a2:Int} {r:Bool} (h:spec_l81In_m a0 a1 a2 = some r):PureC Try.prog 47 [.d (.int .i64 a0),.d (.int .i64 a1),.d (.int .i64 a2)] (.d (.bool r)) []:=by
  refine pureC_m tOk (fn:=Try.f47) (c:=codeOf Try.f47) rfl rfl (by kernel_rfl) rfl rfl (by simp) (by simp) (ids_of rfl) ?_;unfold spec_l81In_m at h;(conv=>whnf);obtain rfl:=Option.some.inj h;exact ⟨_,LE.refl _,And.intro rfl trivial⟩
noncomputable def spec_TreeLinksOk_m (a0:Int) (a1:(List TreeLink)):Option (Bool) :=
 bd (spec_l81In_m a0 1 8) fun x1 =>
(if ((!x1) || (decide (((a1.length:Nat):Int) > 12))) = true then
 some false
else
 bd (lp (σ:=Int) (β:=(Unit ⊕ Unit)) (fun s2 =>
(if (decide (s2<((a1.length:Nat):Int))) = true then
 gd ((0:Int)≤s2∧s2<((a1.length:Nat):Int)) <|
 bd (gcall ((((decide (((a1.getD s2.toNat default).A)<0)) || (decide (((a1.getD s2.toNat default).A) ≥ ((a1.getD s2.toNat default).B)))) || (decide (((a1.getD s2.toNat default).B) ≥ a0))) = false) (spec_l81In_m ((a1.getD s2.toNat default).Cost) 1 50)) fun x7 =>
(if ((((decide (((a1.getD s2.toNat default).A)<0)) || (decide (((a1.getD s2.toNat default).A) ≥ ((a1.getD s2.toNat default).B)))) || (decide (((a1.getD s2.toNat default).B) ≥ a0))) || (!x7)) = true then
 some (.inr (.inl ()))
else
 some (.inl (IntKind.i64.wrap (s2+1))))
else
 some (.inr (.inr ())))) 0) fun x5 =>
(match x5 with
| .inl d8 =>
 some false
| .inr d9 =>
 some true))
theorem spec_TreeLinksOk_c {a0:Int} {a1:(List TreeLink)} {r:Bool} (h:spec_TreeLinksOk_m a0 a1 = some r):PureC Try.prog 82 [.d (.int .i64 a0),.d (slD TreeLink.enc a1)] (.d (.bool r)) []:=by
  refine pureC_m tOk (fn:=Try.f82) (c:=codeOf Try.f82) rfl rfl (by kernel_rfl) rfl rfl (by simp) (by simp) (ids_of rfl) ?_;unfold spec_TreeLinksOk_m at h;(conv=>whnf);refine seq_in tOk ?_;(conv=>whnf);obtain ⟨x1,hx1,h⟩:=bd_some h;refine callC 0 (spec_l81In_c hx1) (by kernel_rfl) (by kernel_rfl) ?_;clear hx1;(conv=>whnf);refine And.intro (fun e=>?_) (fun e=>?_)
  · replace h:=ite_t h e; clear e;(conv=>whnf);obtain rfl:=Option.some.inj h;exact ⟨_,LE.refl _,And.intro rfl trivial⟩
  · replace h:=ite_f h e; clear e;(conv=>whnf);refine seq_in tOk ?_;(conv=>whnf);obtain ⟨x5,hx5,h⟩:=bd_some h;refine loop_m tOk hx5 (fun s2=>⟨0,47,[(0,.d (.int .i64 a0)),(1,.d (slD TreeLink.enc a1)),(5,.d (.int .i64 s2))],[],[],[]⟩) ?_ ?_
    · refine le_mk ?_ ?_ ?_ <;> exact leA
    · clear hx5;intro s2 y3 g4 hy3;(conv=>whnf);refine seq_in tOk ?_;(conv=>whnf);refine And.intro (fun e=>?_) (fun e=>?_)
      · replace g4:=ite_t g4 e; clear e;(conv=>whnf);refine seq_in tOk ?_;(conv=>whnf);obtain ⟨g6,g4⟩:=gd_some g4;refine And.intro g6 ?_;clear g6;(conv=>whnf);obtain ⟨x7,hx7,g4⟩:=bd_some g4;refine callG_m rfl rfl rfl rfl rfl rfl (by intro c0; exact spec_l81In_c (gcall_some hx7 c0)) ?_;(conv=>whnf);refine And.intro (fun e=>?_) (fun e=>?_)
        · replace g4:=ite_t g4 e; clear e;(conv=>whnf);obtain rfl:=Option.some.inj g4;obtain rfl:=hy3 _ rfl;obtain rfl:=Option.some.inj h;exact ⟨_,LE.refl _,And.intro rfl trivial⟩
        · replace g4:=ite_f g4 e; clear e;(conv=>whnf);obtain rfl:=Option.some.inj g4;refine ⟨_,rfl,le_mk ?_ ?_ ?_⟩ <;> exact leA
      · replace g4:=ite_f g4 e; clear e;(conv=>whnf);obtain rfl:=Option.some.inj g4;obtain rfl:=hy3 _ rfl;obtain rfl:=Option.some.inj h;exact ⟨_,LE.refl _,And.intro rfl trivial⟩
noncomputable def spec_l82Self_m (a0:Int):Option (TreeMind) :=
 some (⟨(⟨a0,0,0⟩:TreeVector),-1⟩:TreeMind)
theorem spec_l82Self_c {a0:Int} {r:TreeMind} (h:spec_l82Self_m a0 = some r):PureC Try.prog 119 [.d (.int .i64 a0)] (.agg [.d (.int .i64 r.Vector.Root),.d (.int .i64 r.Vector.Cost),.d (.int .i64 r.Vector.Age),.d (.int .i64 r.Link)]) []:=by
  refine pureC_m tOk (fn:=Try.f119) (c:=codeOf Try.f119) rfl rfl (by kernel_rfl) rfl rfl (by simp) (by simp) (ids_of rfl) ?_;unfold spec_l82Self_m at h;(conv=>whnf);obtain rfl:=Option.some.inj h;exact ⟨_,LE.refl _,And.intro rfl trivial⟩
noncomputable def spec_TreeVectorOk_m (a0:TreeVector):Option (Bool) :=
(if (a0.Root == 0) = true then
 some ((a0.Cost == 0) && (a0.Age == 0))
else
 bd (spec_l81In_m a0.Root 1 1000) fun x1 =>
 bd (gcall (x1 = true) (spec_l81In_m a0.Cost 0 1000)) fun x2 =>
 bd (gcall ((x1 && x2) = true) (spec_l81In_m a0.Age 0 10)) fun x3 =>
 some ((x1 && x2) && x3))
theorem spec_TreeVectorOk_c {a0:TreeVector} {r:Bool} (h:spec_TreeVectorOk_m a0 = some r):PureC Try.prog 126 [.agg [.d (.int .i64 a0.Root),.d (.int .i64 a0.Cost),.d (.int .i64 a0.Age)]] (.d (.bool r)) []:=by
  refine pureC_m tOk (fn:=Try.f126) (c:=codeOf Try.f126) rfl rfl (by kernel_rfl) rfl rfl (by simp) (by simp) (ids_of rfl) ?_;unfold spec_TreeVectorOk_m at h;(conv=>whnf);refine seq_in tOk ?_;(conv=>whnf);refine And.intro (fun e=>?_) (fun e=>?_)
  · replace h:=ite_t h e; clear e;(conv=>whnf);obtain rfl:=Option.some.inj h;exact ⟨_,LE.refl _,And.intro rfl trivial⟩
  · replace h:=ite_f h e; clear e;(conv=>whnf);obtain ⟨x1,hx1,h⟩:=bd_some h;refine callC 0 (spec_l81In_c hx1) (by kernel_rfl) (by kernel_rfl) ?_;clear hx1;(conv=>whnf);obtain ⟨x2,hx2,h⟩:=bd_some h;refine callG_m rfl rfl rfl rfl rfl rfl (by intro c0; exact spec_l81In_c (gcall_some hx2 c0)) ?_;(conv=>whnf);obtain ⟨x3,hx3,h⟩:=bd_some h;refine callG_m rfl rfl rfl rfl rfl rfl (by intro c0; exact spec_l81In_c (gcall_some hx3 c0)) ?_;(conv=>whnf);obtain rfl:=Option.some.inj h;exact ⟨_,LE.refl _,And.intro rfl trivial⟩
noncomputable def spec_l82Lists_m (a0:TreeWorld):Option (Bool) :=
(if (((((a0.AtA.length:Nat):Int) != ((a0.Links.length:Nat):Int)) || (((a0.AtB.length:Nat):Int) != ((a0.Links.length:Nat):Int))) || (decide (((a0.Radio.length:Nat):Int) > 12))) = true then
 some false
else
 bd (lp (σ:=Int) (β:=(Unit ⊕ Unit)) (fun s1 =>
(if (decide (s1<((a0.Down.length:Nat):Int))) = true then
 gd ((0:Int)≤s1∧s1<((a0.Down.length:Nat):Int)) <|
 bd (spec_l81In_m (a0.Down.getD s1.toNat default) 0 (IntKind.i64.wrap (((a0.Links.length:Nat):Int) - 1))) fun x6 =>
 gd ((decide (s1 > 0)) = true → ((!x6) = false → ((0:Int)≤IntKind.i64.wrap (s1 - 1)∧IntKind.i64.wrap (s1 - 1)<((a0.Down.length:Nat):Int)))) <|
 gd ((decide (s1 > 0)) = true → ((!x6) = false → ((0:Int)≤s1∧s1<((a0.Down.length:Nat):Int)))) <|
(if ((!x6) || ((decide (s1 > 0)) && (decide ((a0.Down.getD ((IntKind.i64.wrap (s1 - 1)).toNat) default) ≥ (a0.Down.getD s1.toNat default))))) = true then
 some (.inr (.inl ()))
else
 some (.inl (IntKind.i64.wrap (s1+1))))
else
 some (.inr (.inr ())))) 0) fun x4 =>
(match x4 with
| .inl d9 =>
 some false
| .inr d10 =>
 bd (lp (σ:=Int) (β:=(Unit ⊕ Unit)) (fun s11 =>
(if (decide (s11<((a0.Radio.length:Nat):Int))) = true then
 gd ((0:Int)≤s11∧s11<((a0.Radio.length:Nat):Int)) <|
 bd (spec_l81In_m ((a0.Radio.getD s11.toNat default).Link) 0 (IntKind.i64.wrap (((a0.Links.length:Nat):Int) - 1))) fun x16 =>
 bd (gcall ((!x16) = false) (spec_l81In_m ((a0.Radio.getD s11.toNat default).End) 0 1)) fun x17 =>
 bd (gcall (((!x16) || (!x17)) = false) (spec_TreeVectorOk_m ((a0.Radio.getD s11.toNat default).Vector))) fun x18 =>
(if ((((!x16) || (!x17)) || (!x18)) || ((((a0.Radio.getD s11.toNat default).Vector).Root) == 0)) = true then
 some (.inr (.inl ()))
else
 some (.inl (IntKind.i64.wrap (s11+1))))
else
 some (.inr (.inr ())))) 0) fun x14 =>
(match x14 with
| .inl d19 =>
 some false
| .inr d20 =>
 some true)))
theorem spec_l82Lists_c {a0:TreeWorld} {r:Bool} (h:spec_l82Lists_m a0 = some r):PureC Try.prog 83 [.agg [.d (slD TreeBridge.enc a0.Bridges),.d (slD TreeLink.enc a0.Links),.d (slD encInt a0.Down),.d (slD TreeSlot.enc a0.AtA),.d (slD TreeSlot.enc a0.AtB),.d (slD TreeWord.enc a0.Radio)]] (.d (.bool r)) []:=by
  refine pureC_m tOk (fn:=Try.f83) (c:=codeOf Try.f83) rfl rfl (by kernel_rfl) rfl rfl (by simp) (by simp) (ids_of rfl) ?_;unfold spec_l82Lists_m at h;(conv=>whnf);refine seq_in tOk ?_;(conv=>whnf);refine And.intro (fun e=>?_) (fun e=>?_)
  · replace h:=ite_t h e; clear e;(conv=>whnf);obtain rfl:=Option.some.inj h;exact ⟨_,LE.refl _,And.intro rfl trivial⟩
  · replace h:=ite_f h e; clear e;(conv=>whnf);refine seq_in tOk ?_;(conv=>whnf);obtain ⟨x4,hx4,h⟩:=bd_some h;refine loop_m tOk hx4 (fun s1=>⟨0,102,[(1,.ref 1 0 0),(3,.d (.int .i64 s1))],[],[(1,.box 36 [.d (slD TreeBridge.enc a0.Bridges),.d (slD TreeLink.enc a0.Links),.d (slD encInt a0.Down),.d (slD TreeSlot.enc a0.AtA),.d (slD TreeSlot.enc a0.AtB),.d (slD TreeWord.enc a0.Radio)])],[]⟩) ?_ ?_
    · refine le_mk ?_ ?_ ?_ <;> exact leA
    · clear hx4;intro s1 y2 g3 hy2;(conv=>whnf);refine seq_in tOk ?_;(conv=>whnf);refine And.intro (fun e=>?_) (fun e=>?_)
      · replace g3:=ite_t g3 e; clear e;(conv=>whnf);refine seq_in tOk ?_;(conv=>whnf);obtain ⟨g5,g3⟩:=gd_some g3;obtain ⟨x6,hx6,g3⟩:=bd_some g3;obtain ⟨g7,g3⟩:=gd_some g3;obtain ⟨g8,g3⟩:=gd_some g3;refine draw_k tOk (by kernel_rfl) (fun j=>match j with | 9=>some (.pure 0 (.d (.bool x6)) []) | _=>none) 29 [] [[],[true],[],[true,true,true],[true,true,true,true],[],[false,false,false,false,false,true],[false,false,false,false,false,true,true],[false,false,false,false,false,true,true,true],[true,true,true,true,true,true,true,true,true],[true,true,true,true,true,true,true,true,true,true],[true,true,true,true,true,true,true,true,true,true,true],[true,true,true,true,true,true,true,true,true,true,true,true],[true,true,true,true,true,true,true,true,true,true,true,true,true],[true,true,true,true,true,true,true,true,true,true,true,true,true,true],[true,true,true,true,true,true,true,true,true,true,true,true,true,true,true],[true,true,true,true,true,true,true,true,true,true,true,true,true,true,true,true],[true,true,true,true,true,true,true,true,true,true,true,true,true,true,true],[true,true,true,true,true,true,true,true,true,true,true,true,true,true,true,false,false,true],[true,true,true,true,true,true,true,true,true,true,true,true,true,true,true,true,true,true,true],[true,true,true,true,true,true,true,true,true,true,true,true,true,true,true,true,true,true,true,true],[true,true,true,true,true,true,true,true,true,true,true,true,true,true,true],[true,true,true,true,true,true,true,true,true,true,true,true,true,true,true,false,false,false,false,false,false,true],[true,true,true,true,true,true,true,true,true,true,true,true,true,true,true],[true,true,true,true,true,true,true,true,true,true,true,true,true,true,true,false,false,false,false,false,false,true,true,true],[true,true,true,true,true,true,true,true,true,true,true,true,true,true,true,false,false,false,false,false,false,true,true,true,true],[true,true,true,true,true,true,true,true,true,true,true,true,true,true,true,true,true,true,true,true,true,true,true,true,true,true],[true,true,true,true,true,true,true,true,true,true,true,true,true,true,true,true,true,true,true,true,true,true,true,true,true,true,true],[true,true,true,true,true,true,true,true,true,true,true,true,true,true,true,true,true,true,true,true,true,true,true,true,true,true,true,true]] [] (by decide) (by kernel_rfl) (by kernel_rfl) ?_;(conv=>whnf);refine And.intro g5 ?_;clear g5;(conv=>whnf);refine And.intro (callD_any (spec_l81In_c hx6) (by kernel_rfl)) ?_;(conv=>whnf);refine And.intro g7 ?_;clear g7;(conv=>whnf);refine And.intro g8 ?_;clear g8;(conv=>whnf);refine And.intro (by kernel_rfl) ?_;(conv=>whnf);refine And.intro (fun e=>?_) (fun e=>?_)
        · replace g3:=ite_t g3 e; clear e;(conv=>whnf);obtain rfl:=Option.some.inj g3;obtain rfl:=hy2 _ rfl;obtain rfl:=Option.some.inj h;exact ⟨_,LE.refl _,And.intro rfl trivial⟩
        · replace g3:=ite_f g3 e; clear e;(conv=>whnf);obtain rfl:=Option.some.inj g3;refine ⟨_,rfl,le_mk ?_ ?_ ?_⟩ <;> exact leA
      · replace g3:=ite_f g3 e; clear e;(conv=>whnf);obtain rfl:=Option.some.inj g3;obtain rfl:=hy2 _ rfl;refine seq_in tOk ?_;(conv=>whnf);obtain ⟨x14,hx14,h⟩:=bd_some h;refine loop_m tOk hx14 (fun s11=>⟨0,102,[(1,.ref 1 0 0),(4,.d (.int .i64 s11))],[],[(1,.box 36 [.d (slD TreeBridge.enc a0.Bridges),.d (slD TreeLink.enc a0.Links),.d (slD encInt a0.Down),.d (slD TreeSlot.enc a0.AtA),.d (slD TreeSlot.enc a0.AtB),.d (slD TreeWord.enc a0.Radio)])],[]⟩) ?_ ?_
        · refine le_mk ?_ ?_ ?_ <;> exact leA
        · clear hx14;intro s11 y12 g13 hy12;(conv=>whnf);refine seq_in tOk ?_;(conv=>whnf);refine And.intro (fun e=>?_) (fun e=>?_)
          · replace g13:=ite_t g13 e; clear e;(conv=>whnf);refine seq_in tOk ?_;(conv=>whnf);obtain ⟨g15,g13⟩:=gd_some g13;refine And.intro g15 ?_;clear g15;(conv=>whnf);obtain ⟨x16,hx16,g13⟩:=bd_some g13;refine callC 0 (spec_l81In_c hx16) (by kernel_rfl) (by kernel_rfl) ?_;clear hx16;(conv=>whnf);obtain ⟨x17,hx17,g13⟩:=bd_some g13;refine callG_m rfl rfl rfl rfl rfl rfl (by intro c0; exact spec_l81In_c (gcall_some hx17 c0)) ?_;(conv=>whnf);obtain ⟨x18,hx18,g13⟩:=bd_some g13;refine callG_m rfl rfl rfl rfl rfl rfl (by intro c0; exact spec_TreeVectorOk_c (gcall_some hx18 c0)) ?_;(conv=>whnf);refine And.intro (fun e=>?_) (fun e=>?_)
            · replace g13:=ite_t g13 e; clear e;(conv=>whnf);obtain rfl:=Option.some.inj g13;obtain rfl:=hy12 _ rfl;obtain rfl:=Option.some.inj h;exact ⟨_,LE.refl _,And.intro rfl trivial⟩
            · replace g13:=ite_f g13 e; clear e;(conv=>whnf);obtain rfl:=Option.some.inj g13;refine ⟨_,rfl,le_mk ?_ ?_ ?_⟩ <;> exact leA
          · replace g13:=ite_f g13 e; clear e;(conv=>whnf);obtain rfl:=Option.some.inj g13;obtain rfl:=hy12 _ rfl;obtain rfl:=Option.some.inj h;exact ⟨_,LE.refl _,And.intro rfl trivial⟩
noncomputable def spec_l82BridgeOk_m (a0:TreeWorld) (a1:Int):Option (Bool) :=
 gd ((0:Int)≤a1∧a1<((a0.Bridges.length:Nat):Int)) <|
 bd (spec_l81In_m ((a0.Bridges.getD a1.toNat default).Id) 1 1000) fun x2 =>
(if (!x2) = true then
 some false
else
 bd (lp (σ:=Int) (β:=(Unit ⊕ Unit)) (fun s3 =>
(if (decide (s3<a1)) = true then
 gd ((0:Int)≤s3∧s3<((a0.Bridges.length:Nat):Int)) <|
(if (((a0.Bridges.getD s3.toNat default).Id) == ((a0.Bridges.getD a1.toNat default).Id)) = true then
 some (.inr (.inl ()))
else
 some (.inl (IntKind.i64.wrap (s3+1))))
else
 some (.inr (.inr ())))) 0) fun x6 =>
(match x6 with
| .inl d8 =>
 some false
| .inr d9 =>
(if (!((a0.Bridges.getD a1.toNat default).Up)) = true then
 some (((((((a0.Bridges.getD a1.toNat default).Mind).Vector).Root) == 0) && ((((((a0.Bridges.getD a1.toNat default).Mind).Vector).Cost) == 0) && ((((((a0.Bridges.getD a1.toNat default).Mind).Vector).Age) == 0) && true))) && (((((a0.Bridges.getD a1.toNat default).Mind).Link) == 0) && true))
else
 bd (spec_TreeVectorOk_m (((a0.Bridges.getD a1.toNat default).Mind).Vector)) fun x10 =>
 bd (gcall ((x10 && (decide (((((a0.Bridges.getD a1.toNat default).Mind).Vector).Root) > 0))) = true) (spec_l81In_m (((a0.Bridges.getD a1.toNat default).Mind).Link) (-1) (IntKind.i64.wrap (((a0.Links.length:Nat):Int) - 1)))) fun x11 =>
 some ((x10 && (decide (((((a0.Bridges.getD a1.toNat default).Mind).Vector).Root) > 0))) && x11))))
theorem spec_l82BridgeOk_c {a0:TreeWorld} {a1:Int} {r:Bool} (h:spec_l82BridgeOk_m a0 a1 = some r):PureC Try.prog 84 [.agg [.d (slD TreeBridge.enc a0.Bridges),.d (slD TreeLink.enc a0.Links),.d (slD encInt a0.Down),.d (slD TreeSlot.enc a0.AtA),.d (slD TreeSlot.enc a0.AtB),.d (slD TreeWord.enc a0.Radio)],.d (.int .i64 a1)] (.d (.bool r)) []:=by
  refine pureC_m tOk (fn:=Try.f84) (c:=codeOf Try.f84) rfl rfl (by kernel_rfl) rfl rfl (by simp) (by simp) (ids_of rfl) ?_;unfold spec_l82BridgeOk_m at h;(conv=>whnf);obtain ⟨g1,h⟩:=gd_some h;refine And.intro g1 ?_;clear g1;(conv=>whnf);refine seq_in tOk ?_;(conv=>whnf);obtain ⟨x2,hx2,h⟩:=bd_some h;refine callC 0 (spec_l81In_c hx2) (by kernel_rfl) (by kernel_rfl) ?_;clear hx2;(conv=>whnf);refine And.intro (fun e=>?_) (fun e=>?_)
  · replace h:=ite_t h e; clear e;(conv=>whnf);obtain rfl:=Option.some.inj h;exact ⟨_,LE.refl _,And.intro rfl trivial⟩
  · replace h:=ite_f h e; clear e;(conv=>whnf);refine seq_in tOk ?_;(conv=>whnf);obtain ⟨x6,hx6,h⟩:=bd_some h;refine loop_m tOk hx6 (fun s3=>⟨0,57,[(1,.d (.int .i64 a1)),(2,.ref 2 0 0),(5,.ref 5 0 0),(6,.d (.int .i64 s3))],[],[(5,.box 58 [.d (.int .i64 ((a0.Bridges.getD a1.toNat default).Id)),.d (.bool ((a0.Bridges.getD a1.toNat default).Up)),.d (.int .i64 ((((a0.Bridges.getD a1.toNat default).Mind).Vector).Root)),.d (.int .i64 ((((a0.Bridges.getD a1.toNat default).Mind).Vector).Cost)),.d (.int .i64 ((((a0.Bridges.getD a1.toNat default).Mind).Vector).Age)),.d (.int .i64 (((a0.Bridges.getD a1.toNat default).Mind).Link))]),(2,.box 36 [.d (slD TreeBridge.enc a0.Bridges),.d (slD TreeLink.enc a0.Links),.d (slD encInt a0.Down),.d (slD TreeSlot.enc a0.AtA),.d (slD TreeSlot.enc a0.AtB),.d (slD TreeWord.enc a0.Radio)])],[]⟩) ?_ ?_
    · refine le_mk ?_ ?_ ?_ <;> exact leA
    · clear hx6;intro s3 y4 g5 hy4;(conv=>whnf);refine seq_in tOk ?_;(conv=>whnf);refine And.intro (fun e=>?_) (fun e=>?_)
      · replace g5:=ite_t g5 e; clear e;(conv=>whnf);refine seq_in tOk ?_;(conv=>whnf);obtain ⟨g7,g5⟩:=gd_some g5;refine draw_k tOk (by kernel_rfl) (fun _=>none) 9 [] [[],[true],[],[true,true,true],[true,true,true,true],[true,true,true,true,true],[],[false,false,false,false,false,false,true],[true,true,true,true,true,true,true,true]] [] (by decide) (by kernel_rfl) (by kernel_rfl) ?_;(conv=>whnf);refine And.intro g7 ?_;clear g7;(conv=>whnf);refine And.intro (by kernel_rfl) ?_;(conv=>whnf);refine And.intro (fun e=>?_) (fun e=>?_)
        · replace g5:=ite_t g5 e; clear e;(conv=>whnf);obtain rfl:=Option.some.inj g5;obtain rfl:=hy4 _ rfl;obtain rfl:=Option.some.inj h;exact ⟨_,LE.refl _,And.intro rfl trivial⟩
        · replace g5:=ite_f g5 e; clear e;(conv=>whnf);obtain rfl:=Option.some.inj g5;refine ⟨_,rfl,le_mk ?_ ?_ ?_⟩ <;> exact leA
      · replace g5:=ite_f g5 e; clear e;(conv=>whnf);obtain rfl:=Option.some.inj g5;obtain rfl:=hy4 _ rfl;refine seq_in tOk ?_;(conv=>whnf);refine And.intro (fun e=>?_) (fun e=>?_)
        · replace h:=ite_t h e; clear e;(conv=>whnf);obtain rfl:=Option.some.inj h;exact ⟨_,LE.refl _,And.intro rfl trivial⟩
        · replace h:=ite_f h e; clear e;(conv=>whnf);obtain ⟨x10,hx10,h⟩:=bd_some h;refine callC 0 (spec_TreeVectorOk_c hx10) (by kernel_rfl) (by kernel_rfl) ?_;clear hx10;(conv=>whnf);obtain ⟨x11,hx11,h⟩:=bd_some h;refine callG_m rfl rfl rfl rfl rfl rfl (by intro c0; exact spec_l81In_c (gcall_some hx11 c0)) ?_;(conv=>whnf);obtain rfl:=Option.some.inj h;exact ⟨_,LE.refl _,And.intro rfl trivial⟩
noncomputable def spec_l82SlotOk_m (a0:TreeSlot):Option (Bool) :=
 bd (spec_TreeVectorOk_m a0.Vector) fun x1 =>
 bd (gcall (x1 = true) (spec_l81In_m a0.Left 0 3)) fun x2 =>
 some ((x1 && x2) && ((a0.Left == 0) == (a0.Vector.Root == 0)))
theorem spec_l82SlotOk_c {a0:TreeSlot} {r:Bool} (h:spec_l82SlotOk_m a0 = some r):PureC Try.prog 127 [.agg [.d (.int .i64 a0.Vector.Root),.d (.int .i64 a0.Vector.Cost),.d (.int .i64 a0.Vector.Age),.d (.int .i64 a0.Left)]] (.d (.bool r)) []:=by
  refine pureC_m tOk (fn:=Try.f127) (c:=codeOf Try.f127) rfl rfl (by kernel_rfl) rfl rfl (by simp) (by simp) (ids_of rfl) ?_;unfold spec_l82SlotOk_m at h;(conv=>whnf);obtain ⟨x1,hx1,h⟩:=bd_some h;refine callC 0 (spec_TreeVectorOk_c hx1) (by kernel_rfl) (by kernel_rfl) ?_;clear hx1;(conv=>whnf);obtain ⟨x2,hx2,h⟩:=bd_some h;refine callG_m rfl rfl rfl rfl rfl rfl (by intro c0; exact spec_l81In_c (gcall_some hx2 c0)) ?_;(conv=>whnf);obtain rfl:=Option.some.inj h;exact ⟨_,LE.refl _,And.intro rfl trivial⟩
noncomputable def spec_l82Ends_m (a0:TreeWorld):Option (Bool) :=
 bd (lp (σ:=Int) (β:=(Unit ⊕ Unit)) (fun s1 =>
(if (decide (s1<((a0.Links.length:Nat):Int))) = true then
 gd ((0:Int)≤s1∧s1<((a0.Links.length:Nat):Int)) <|
 gd ((0:Int)≤s1∧s1<((a0.AtA.length:Nat):Int)) <|
 bd (spec_l82SlotOk_m (⟨((a0.AtA.getD s1.toNat default).Vector),(a0.AtA.getD s1.toNat default).Left⟩:TreeSlot)) fun x7 =>
 gd ((!x7) = false → ((0:Int)≤s1∧s1<((a0.AtB.length:Nat):Int))) <|
 bd (gcall ((!x7) = false) (spec_l82SlotOk_m (⟨((a0.AtB.getD s1.toNat default).Vector),(a0.AtB.getD s1.toNat default).Left⟩:TreeSlot))) fun x9 =>
(if ((!x7) || (!x9)) = true then
 some (.inr (.inl ()))
else
 bd (spec_l82Has_m a0.Down s1) fun x10 =>
 gd (x10 = false → ((0:Int)≤(a0.Links.getD s1.toNat default).A∧(a0.Links.getD s1.toNat default).A<((a0.Bridges.length:Nat):Int))) <|
 gd ((x10 || (!((a0.Bridges.getD (((a0.Links.getD s1.toNat default).A).toNat) default).Up))) = true → ((0:Int)≤s1∧s1<((a0.AtA.length:Nat):Int))) <|
 bd (gcall (((x10 || (!((a0.Bridges.getD (((a0.Links.getD s1.toNat default).A).toNat) default).Up))) && (decide (((a0.AtA.getD s1.toNat default).Left) > 0))) = false) (spec_l82Has_m a0.Down s1)) fun x13 =>
 gd (x13 = false → (((x10 || (!((a0.Bridges.getD (((a0.Links.getD s1.toNat default).A).toNat) default).Up))) && (decide (((a0.AtA.getD s1.toNat default).Left) > 0))) = false → ((0:Int)≤(a0.Links.getD s1.toNat default).B∧(a0.Links.getD s1.toNat default).B<((a0.Bridges.length:Nat):Int)))) <|
 gd ((x13 || (!((a0.Bridges.getD (((a0.Links.getD s1.toNat default).B).toNat) default).Up))) = true → (((x10 || (!((a0.Bridges.getD (((a0.Links.getD s1.toNat default).A).toNat) default).Up))) && (decide (((a0.AtA.getD s1.toNat default).Left) > 0))) = false → ((0:Int)≤s1∧s1<((a0.AtB.length:Nat):Int)))) <|
(if (((x10 || (!((a0.Bridges.getD (((a0.Links.getD s1.toNat default).A).toNat) default).Up))) && (decide (((a0.AtA.getD s1.toNat default).Left) > 0))) || ((x13 || (!((a0.Bridges.getD (((a0.Links.getD s1.toNat default).B).toNat) default).Up))) && (decide (((a0.AtB.getD s1.toNat default).Left) > 0)))) = true then
 some (.inr (.inl ()))
else
 some (.inl (IntKind.i64.wrap (s1+1)))))
else
 some (.inr (.inr ())))) 0) fun x4 =>
(match x4 with
| .inl d16 =>
 some false
| .inr d17 =>
 some true)
theorem spec_l82Ends_c {a0:TreeWorld} {r:Bool} (h:spec_l82Ends_m a0 = some r):PureC Try.prog 85 [.agg [.d (slD TreeBridge.enc a0.Bridges),.d (slD TreeLink.enc a0.Links),.d (slD encInt a0.Down),.d (slD TreeSlot.enc a0.AtA),.d (slD TreeSlot.enc a0.AtB),.d (slD TreeWord.enc a0.Radio)]] (.d (.bool r)) []:=by
  refine pureC_m tOk (fn:=Try.f85) (c:=codeOf Try.f85) rfl rfl (by kernel_rfl) rfl rfl (by simp) (by simp) (ids_of rfl) ?_;unfold spec_l82Ends_m at h;(conv=>whnf);refine seq_in tOk ?_;(conv=>whnf);obtain ⟨x4,hx4,h⟩:=bd_some h;refine loop_m tOk hx4 (fun s1=>⟨0,81,[(1,.ref 1 0 0),(3,.d (.int .i64 s1))],[],[(1,.box 36 [.d (slD TreeBridge.enc a0.Bridges),.d (slD TreeLink.enc a0.Links),.d (slD encInt a0.Down),.d (slD TreeSlot.enc a0.AtA),.d (slD TreeSlot.enc a0.AtB),.d (slD TreeWord.enc a0.Radio)])],[]⟩) ?_ ?_
  · refine le_mk ?_ ?_ ?_ <;> exact leA
  · clear hx4;intro s1 y2 g3 hy2;(conv=>whnf);refine seq_in tOk ?_;(conv=>whnf);refine And.intro (fun e=>?_) (fun e=>?_)
    · replace g3:=ite_t g3 e; clear e;(conv=>whnf);refine seq_in tOk ?_;(conv=>whnf);obtain ⟨g5,g3⟩:=gd_some g3;refine And.intro g5 ?_;clear g5;(conv=>whnf);refine seq_in tOk ?_;(conv=>whnf);obtain ⟨g6,g3⟩:=gd_some g3;refine And.intro g6 ?_;clear g6;(conv=>whnf);obtain ⟨x7,hx7,g3⟩:=bd_some g3;refine callC 0 (spec_l82SlotOk_c hx7) (by kernel_rfl) (by kernel_rfl) ?_;clear hx7;(conv=>whnf);obtain ⟨g8,g3⟩:=gd_some g3;refine And.intro g8 ?_;clear g8;(conv=>whnf);obtain ⟨x9,hx9,g3⟩:=bd_some g3;refine callG_m rfl rfl rfl rfl rfl rfl (by intro c0; exact spec_l82SlotOk_c (gcall_some hx9 c0)) ?_;(conv=>whnf);refine And.intro (fun e=>?_) (fun e=>?_)
      · replace g3:=ite_t g3 e; clear e;(conv=>whnf);obtain rfl:=Option.some.inj g3;obtain rfl:=hy2 _ rfl;obtain rfl:=Option.some.inj h;exact ⟨_,LE.refl _,And.intro rfl trivial⟩
      · replace g3:=ite_f g3 e; clear e;(conv=>whnf);obtain ⟨x10,hx10,g3⟩:=bd_some g3;refine callC 0 (spec_l82Has_c hx10) (by kernel_rfl) (by kernel_rfl) ?_;clear hx10;(conv=>whnf);obtain ⟨g11,g3⟩:=gd_some g3;refine And.intro g11 ?_;clear g11;(conv=>whnf);obtain ⟨g12,g3⟩:=gd_some g3;refine And.intro g12 ?_;clear g12;(conv=>whnf);obtain ⟨x13,hx13,g3⟩:=bd_some g3;refine callG_m rfl rfl rfl rfl rfl rfl (by intro c0; exact spec_l82Has_c (gcall_some hx13 c0)) ?_;(conv=>whnf);obtain ⟨g14,g3⟩:=gd_some g3;refine And.intro g14 ?_;clear g14;(conv=>whnf);obtain ⟨g15,g3⟩:=gd_some g3;refine And.intro g15 ?_;clear g15;(conv=>whnf);refine And.intro (fun e=>?_) (fun e=>?_)
        · replace g3:=ite_t g3 e; clear e;(conv=>whnf);obtain rfl:=Option.some.inj g3;obtain rfl:=hy2 _ rfl;obtain rfl:=Option.some.inj h;exact ⟨_,LE.refl _,And.intro rfl trivial⟩
        · replace g3:=ite_f g3 e; clear e;(conv=>whnf);obtain rfl:=Option.some.inj g3;refine ⟨_,rfl,le_mk ?_ ?_ ?_⟩ <;> exact leA
    · replace g3:=ite_f g3 e; clear e;(conv=>whnf);obtain rfl:=Option.some.inj g3;obtain rfl:=hy2 _ rfl;obtain rfl:=Option.some.inj h;exact ⟨_,LE.refl _,And.intro rfl trivial⟩
noncomputable def spec_TreeWorldOk_m (a0:TreeWorld):Option (Bool) :=
 bd (spec_TreeLinksOk_m ((a0.Bridges.length:Nat):Int) a0.Links) fun x1 =>
 bd (gcall ((!x1) = false) (spec_l82Lists_m a0)) fun x2 =>
(if ((!x1) || (!x2)) = true then
 some false
else
 bd (lp (σ:=Int) (β:=(Unit ⊕ Unit)) (fun s3 =>
(if (decide (s3<((a0.Bridges.length:Nat):Int))) = true then
 bd (spec_l82BridgeOk_m a0 s3) fun x7 =>
(if (!x7) = true then
 some (.inr (.inl ()))
else
 some (.inl (IntKind.i64.wrap (s3+1))))
else
 some (.inr (.inr ())))) 0) fun x6 =>
(match x6 with
| .inl d8 =>
 some false
| .inr d9 =>
 bd (spec_l82Ends_m a0) fun x10 =>
 some x10))
theorem spec_TreeWorldOk_c {a0:TreeWorld} {r:Bool} (h:spec_TreeWorldOk_m a0 = some r):PureC Try.prog 27 [.agg [.d (slD TreeBridge.enc a0.Bridges),.d (slD TreeLink.enc a0.Links),.d (slD encInt a0.Down),.d (slD TreeSlot.enc a0.AtA),.d (slD TreeSlot.enc a0.AtB),.d (slD TreeWord.enc a0.Radio)]] (.d (.bool r)) []:=by
  refine pureC_m tOk (fn:=Try.f27) (c:=codeOf Try.f27) rfl rfl (by kernel_rfl) rfl rfl (by simp) (by simp) (ids_of rfl) ?_;unfold spec_TreeWorldOk_m at h;(conv=>whnf);refine seq_in tOk ?_;(conv=>whnf);obtain ⟨x1,hx1,h⟩:=bd_some h;refine callC 0 (spec_TreeLinksOk_c hx1) (by kernel_rfl) (by kernel_rfl) ?_;clear hx1;(conv=>whnf);obtain ⟨x2,hx2,h⟩:=bd_some h;refine callG_m rfl rfl rfl rfl rfl rfl (by intro c0; exact spec_l82Lists_c (gcall_some hx2 c0)) ?_;(conv=>whnf);refine And.intro (fun e=>?_) (fun e=>?_)
  · replace h:=ite_t h e; clear e;(conv=>whnf);obtain rfl:=Option.some.inj h;exact ⟨_,LE.refl _,And.intro rfl trivial⟩
  · replace h:=ite_f h e; clear e;(conv=>whnf);refine seq_in tOk ?_;(conv=>whnf);obtain ⟨x6,hx6,h⟩:=bd_some h;refine loop_m tOk hx6 (fun s3=>⟨0,29,[(1,.ref 1 0 0),(3,.d (.int .i64 s3))],[],[(1,.box 36 [.d (slD TreeBridge.enc a0.Bridges),.d (slD TreeLink.enc a0.Links),.d (slD encInt a0.Down),.d (slD TreeSlot.enc a0.AtA),.d (slD TreeSlot.enc a0.AtB),.d (slD TreeWord.enc a0.Radio)])],[]⟩) ?_ ?_
    · refine le_mk ?_ ?_ ?_ <;> exact leA
    · clear hx6;intro s3 y4 g5 hy4;(conv=>whnf);refine seq_in tOk ?_;(conv=>whnf);refine And.intro (fun e=>?_) (fun e=>?_)
      · replace g5:=ite_t g5 e; clear e;(conv=>whnf);refine seq_in tOk ?_;(conv=>whnf);obtain ⟨x7,hx7,g5⟩:=bd_some g5;refine callC 0 (spec_l82BridgeOk_c hx7) (by kernel_rfl) (by kernel_rfl) ?_;clear hx7;(conv=>whnf);refine And.intro (fun e=>?_) (fun e=>?_)
        · replace g5:=ite_t g5 e; clear e;(conv=>whnf);obtain rfl:=Option.some.inj g5;obtain rfl:=hy4 _ rfl;obtain rfl:=Option.some.inj h;exact ⟨_,LE.refl _,And.intro rfl trivial⟩
        · replace g5:=ite_f g5 e; clear e;(conv=>whnf);obtain rfl:=Option.some.inj g5;refine ⟨_,rfl,le_mk ?_ ?_ ?_⟩ <;> exact leA
      · replace g5:=ite_f g5 e; clear e;(conv=>whnf);obtain rfl:=Option.some.inj g5;obtain rfl:=hy4 _ rfl;obtain ⟨x10,hx10,h⟩:=bd_some h;refine callC 0 (spec_l82Ends_c hx10) (by kernel_rfl) (by kernel_rfl) ?_;clear hx10;(conv=>whnf);obtain rfl:=Option.some.inj h;exact ⟨_,LE.refl _,And.intro rfl trivial⟩
noncomputable def spec_l82Copy_m (a0:TreeWorld):Option (TreeWorld) :=
 gd (((0)+(a0.Bridges.length)) * (48+1)≤70368744177664) <|
 gd (((0)+(a0.Links.length)) * (24+1)≤70368744177664) <|
 gd (((0)+(a0.Down.length)) * (8+1)≤70368744177664) <|
 gd (((0)+(a0.AtA.length)) * (32+1)≤70368744177664) <|
 gd (((0)+(a0.AtB.length)) * (32+1)≤70368744177664) <|
 gd (((0)+(a0.Radio.length)) * (40+1)≤70368744177664) <|
 some a0
theorem spec_l82Copy_c {a0:TreeWorld} {r:TreeWorld} (h:spec_l82Copy_m a0 = some r):PureC Try.prog 97 [.agg [.d (slD TreeBridge.enc a0.Bridges),.d (slD TreeLink.enc a0.Links),.d (slD encInt a0.Down),.d (slD TreeSlot.enc a0.AtA),.d (slD TreeSlot.enc a0.AtB),.d (slD TreeWord.enc a0.Radio)]] (.agg [.osl 5001 0 r.Bridges.length,.osl 5002 0 r.Links.length,.osl 5003 0 r.Down.length,.osl 5004 0 r.AtA.length,.osl 5005 0 r.AtB.length,.osl 5006 0 r.Radio.length]) [⟨5001,58,6,r.Bridges.length,rows TreeBridge.enc r.Bridges⟩,⟨5002,61,3,r.Links.length,rows TreeLink.enc r.Links⟩,⟨5003,3,1,r.Down.length,rows encInt r.Down⟩,⟨5004,63,4,r.AtA.length,rows TreeSlot.enc r.AtA⟩,⟨5005,63,4,r.AtB.length,rows TreeSlot.enc r.AtB⟩,⟨5006,113,5,r.Radio.length,rows TreeWord.enc r.Radio⟩]:=by
  refine pureC_m tOk (fn:=Try.f97) (c:=codeOf Try.f97) rfl rfl (by kernel_rfl) rfl rfl (by simp [atomD]) (by simp) (ids_of rfl) ?_;unfold spec_l82Copy_m at h;(conv=>whnf);obtain ⟨g1,h⟩:=gd_some h;obtain ⟨g2,h⟩:=gd_some h;obtain ⟨g3,h⟩:=gd_some h;obtain ⟨g4,h⟩:=gd_some h;obtain ⟨g5,h⟩:=gd_some h;obtain ⟨g6,h⟩:=gd_some h;refine draw_k tOk (by kernel_rfl) (fun _=>none) 25 [] [[],[],[false,true],[true,true,true],[],[],[false,false,false,false,false,true],[true,true,true,true,true,true,true],[],[],[false,false,false,false,false,false,false,false,false,true],[true,true,true,true,true,true,true,true,true,true,true],[],[],[false,false,false,false,false,false,false,false,false,false,false,false,false,true],[true,true,true,true,true,true,true,true,true,true,true,true,true,true,true],[],[],[false,false,false,false,false,false,false,false,false,false,false,false,false,false,false,false,false,true],[true,true,true,true,true,true,true,true,true,true,true,true,true,true,true,true,true,true,true],[],[],[false,false,false,false,false,false,false,false,false,false,false,false,false,false,false,false,false,false,false,false,false,true],[true,true,true,true,true,true,true,true,true,true,true,true,true,true,true,true,true,true,true,true,true,true,true],[true,true,true,true,true,true,true,true,true,true,true,true,true,true,true,true,true,true,true,true,true,true,true,true]] [[true,true,true,true,true,true,true,true,true,true,true,true,true,true,true,true,true,true,true,true,true,true,true,true,true]] (by decide) (by kernel_rfl) (by kernel_rfl) ?_;(conv=>whnf);refine And.intro g1 ?_;clear g1;refine ⟨a0.Bridges.length,rows TreeBridge.enc a0.Bridges,lenA,(by first | exact app_rows (m:=a0.Bridges.length) (by first | rfl | (simp; done) | assumption | (simp [dsub_eq] <;> omega) | omega) (by first | rfl | (simp; done) | assumption | (simp [dsub_eq] <;> omega) | omega) (fun _ _=>rfl) (fun _ _=>rfl) | exact app_rows0 (m:=a0.Bridges.length) (by first | rfl | (simp; done) | assumption | (simp [dsub_eq] <;> omega) | omega) (fun _ _=>rfl) | exact app_rows (m:=a0.Bridges.length) (by first | rfl | (simp; done) | assumption | (simp [dsub_eq] <;> omega) | omega) (by first | rfl | (simp; done) | assumption | (simp [dsub_eq] <;> omega) | omega) (by first | exact fun _ _=>rfl | exact rows_take | (intro i hi; simp only [viewRow_eq,addOff_eq,Int.toNat_zero,Nat.zero_add,Nat.add_zero]; exact rows_take i hi) | exact rows_vt | exact rows_dt | (intro i hi; simp only [viewRow_eq,Nat.zero_add]) | (intro i hi; simp [viewRow_eq])) (by first | exact fun _ _=>rfl | exact rows_take | (intro i hi; simp only [viewRow_eq,addOff_eq,Int.toNat_zero,Nat.zero_add,Nat.add_zero]; exact rows_take i hi) | exact rows_vt | exact rows_dt | (intro i hi; simp only [viewRow_eq,Nat.zero_add]) | (intro i hi; simp [viewRow_eq])) | exact app_rows0 (m:=a0.Bridges.length) (by first | rfl | (simp; done) | assumption | (simp [dsub_eq] <;> omega) | omega) (by first | exact fun _ _=>rfl | exact rows_take | (intro i hi; simp only [viewRow_eq,addOff_eq,Int.toNat_zero,Nat.zero_add,Nat.add_zero]; exact rows_take i hi) | exact rows_vt | exact rows_dt | (intro i hi; simp only [viewRow_eq,Nat.zero_add]) | (intro i hi; simp [viewRow_eq]))),?_⟩;(conv=>whnf);refine And.intro g2 ?_;clear g2;refine ⟨a0.Links.length,rows TreeLink.enc a0.Links,lenA,(by first | exact app_rows (m:=a0.Links.length) (by first | rfl | (simp; done) | assumption | (simp [dsub_eq] <;> omega) | omega) (by first | rfl | (simp; done) | assumption | (simp [dsub_eq] <;> omega) | omega) (fun _ _=>rfl) (fun _ _=>rfl) | exact app_rows0 (m:=a0.Links.length) (by first | rfl | (simp; done) | assumption | (simp [dsub_eq] <;> omega) | omega) (fun _ _=>rfl) | exact app_rows (m:=a0.Links.length) (by first | rfl | (simp; done) | assumption | (simp [dsub_eq] <;> omega) | omega) (by first | rfl | (simp; done) | assumption | (simp [dsub_eq] <;> omega) | omega) (by first | exact fun _ _=>rfl | exact rows_take | (intro i hi; simp only [viewRow_eq,addOff_eq,Int.toNat_zero,Nat.zero_add,Nat.add_zero]; exact rows_take i hi) | exact rows_vt | exact rows_dt | (intro i hi; simp only [viewRow_eq,Nat.zero_add]) | (intro i hi; simp [viewRow_eq])) (by first | exact fun _ _=>rfl | exact rows_take | (intro i hi; simp only [viewRow_eq,addOff_eq,Int.toNat_zero,Nat.zero_add,Nat.add_zero]; exact rows_take i hi) | exact rows_vt | exact rows_dt | (intro i hi; simp only [viewRow_eq,Nat.zero_add]) | (intro i hi; simp [viewRow_eq])) | exact app_rows0 (m:=a0.Links.length) (by first | rfl | (simp; done) | assumption | (simp [dsub_eq] <;> omega) | omega) (by first | exact fun _ _=>rfl | exact rows_take | (intro i hi; simp only [viewRow_eq,addOff_eq,Int.toNat_zero,Nat.zero_add,Nat.add_zero]; exact rows_take i hi) | exact rows_vt | exact rows_dt | (intro i hi; simp only [viewRow_eq,Nat.zero_add]) | (intro i hi; simp [viewRow_eq]))),?_⟩;(conv=>whnf);refine And.intro g3 ?_;clear g3;refine ⟨a0.Down.length,rows encInt a0.Down,lenA,(by first | exact app_rows (m:=a0.Down.length) (by first | rfl | (simp; done) | assumption | (simp [dsub_eq] <;> omega) | omega) (by first | rfl | (simp; done) | assumption | (simp [dsub_eq] <;> omega) | omega) (fun _ _=>rfl) (fun _ _=>rfl) | exact app_rows0 (m:=a0.Down.length) (by first | rfl | (simp; done) | assumption | (simp [dsub_eq] <;> omega) | omega) (fun _ _=>rfl) | exact app_rows (m:=a0.Down.length) (by first | rfl | (simp; done) | assumption | (simp [dsub_eq] <;> omega) | omega) (by first | rfl | (simp; done) | assumption | (simp [dsub_eq] <;> omega) | omega) (by first | exact fun _ _=>rfl | exact rows_take | (intro i hi; simp only [viewRow_eq,addOff_eq,Int.toNat_zero,Nat.zero_add,Nat.add_zero]; exact rows_take i hi) | exact rows_vt | exact rows_dt | (intro i hi; simp only [viewRow_eq,Nat.zero_add]) | (intro i hi; simp [viewRow_eq])) (by first | exact fun _ _=>rfl | exact rows_take | (intro i hi; simp only [viewRow_eq,addOff_eq,Int.toNat_zero,Nat.zero_add,Nat.add_zero]; exact rows_take i hi) | exact rows_vt | exact rows_dt | (intro i hi; simp only [viewRow_eq,Nat.zero_add]) | (intro i hi; simp [viewRow_eq])) | exact app_rows0 (m:=a0.Down.length) (by first | rfl | (simp; done) | assumption | (simp [dsub_eq] <;> omega) | omega) (by first | exact fun _ _=>rfl | exact rows_take | (intro i hi; simp only [viewRow_eq,addOff_eq,Int.toNat_zero,Nat.zero_add,Nat.add_zero]; exact rows_take i hi) | exact rows_vt | exact rows_dt | (intro i hi; simp only [viewRow_eq,Nat.zero_add]) | (intro i hi; simp [viewRow_eq]))),?_⟩;(conv=>whnf);refine And.intro g4 ?_;clear g4;refine ⟨a0.AtA.length,rows TreeSlot.enc a0.AtA,lenA,(by first | exact app_rows (m:=a0.AtA.length) (by first | rfl | (simp; done) | assumption | (simp [dsub_eq] <;> omega) | omega) (by first | rfl | (simp; done) | assumption | (simp [dsub_eq] <;> omega) | omega) (fun _ _=>rfl) (fun _ _=>rfl) | exact app_rows0 (m:=a0.AtA.length) (by first | rfl | (simp; done) | assumption | (simp [dsub_eq] <;> omega) | omega) (fun _ _=>rfl) | exact app_rows (m:=a0.AtA.length) (by first | rfl | (simp; done) | assumption | (simp [dsub_eq] <;> omega) | omega) (by first | rfl | (simp; done) | assumption | (simp [dsub_eq] <;> omega) | omega) (by first | exact fun _ _=>rfl | exact rows_take | (intro i hi; simp only [viewRow_eq,addOff_eq,Int.toNat_zero,Nat.zero_add,Nat.add_zero]; exact rows_take i hi) | exact rows_vt | exact rows_dt | (intro i hi; simp only [viewRow_eq,Nat.zero_add]) | (intro i hi; simp [viewRow_eq])) (by first | exact fun _ _=>rfl | exact rows_take | (intro i hi; simp only [viewRow_eq,addOff_eq,Int.toNat_zero,Nat.zero_add,Nat.add_zero]; exact rows_take i hi) | exact rows_vt | exact rows_dt | (intro i hi; simp only [viewRow_eq,Nat.zero_add]) | (intro i hi; simp [viewRow_eq])) | exact app_rows0 (m:=a0.AtA.length) (by first | rfl | (simp; done) | assumption | (simp [dsub_eq] <;> omega) | omega) (by first | exact fun _ _=>rfl | exact rows_take | (intro i hi; simp only [viewRow_eq,addOff_eq,Int.toNat_zero,Nat.zero_add,Nat.add_zero]; exact rows_take i hi) | exact rows_vt | exact rows_dt | (intro i hi; simp only [viewRow_eq,Nat.zero_add]) | (intro i hi; simp [viewRow_eq]))),?_⟩;(conv=>whnf);refine And.intro g5 ?_;clear g5;refine ⟨a0.AtB.length,rows TreeSlot.enc a0.AtB,lenA,(by first | exact app_rows (m:=a0.AtB.length) (by first | rfl | (simp; done) | assumption | (simp [dsub_eq] <;> omega) | omega) (by first | rfl | (simp; done) | assumption | (simp [dsub_eq] <;> omega) | omega) (fun _ _=>rfl) (fun _ _=>rfl) | exact app_rows0 (m:=a0.AtB.length) (by first | rfl | (simp; done) | assumption | (simp [dsub_eq] <;> omega) | omega) (fun _ _=>rfl) | exact app_rows (m:=a0.AtB.length) (by first | rfl | (simp; done) | assumption | (simp [dsub_eq] <;> omega) | omega) (by first | rfl | (simp; done) | assumption | (simp [dsub_eq] <;> omega) | omega) (by first | exact fun _ _=>rfl | exact rows_take | (intro i hi; simp only [viewRow_eq,addOff_eq,Int.toNat_zero,Nat.zero_add,Nat.add_zero]; exact rows_take i hi) | exact rows_vt | exact rows_dt | (intro i hi; simp only [viewRow_eq,Nat.zero_add]) | (intro i hi; simp [viewRow_eq])) (by first | exact fun _ _=>rfl | exact rows_take | (intro i hi; simp only [viewRow_eq,addOff_eq,Int.toNat_zero,Nat.zero_add,Nat.add_zero]; exact rows_take i hi) | exact rows_vt | exact rows_dt | (intro i hi; simp only [viewRow_eq,Nat.zero_add]) | (intro i hi; simp [viewRow_eq])) | exact app_rows0 (m:=a0.AtB.length) (by first | rfl | (simp; done) | assumption | (simp [dsub_eq] <;> omega) | omega) (by first | exact fun _ _=>rfl | exact rows_take | (intro i hi; simp only [viewRow_eq,addOff_eq,Int.toNat_zero,Nat.zero_add,Nat.add_zero]; exact rows_take i hi) | exact rows_vt | exact rows_dt | (intro i hi; simp only [viewRow_eq,Nat.zero_add]) | (intro i hi; simp [viewRow_eq]))),?_⟩;(conv=>whnf);refine And.intro g6 ?_;clear g6;refine ⟨a0.Radio.length,rows TreeWord.enc a0.Radio,lenA,(by first | exact app_rows (m:=a0.Radio.length) (by first | rfl | (simp; done) | assumption | (simp [dsub_eq] <;> omega) | omega) (by first | rfl | (simp; done) | assumption | (simp [dsub_eq] <;> omega) | omega) (fun _ _=>rfl) (fun _ _=>rfl) | exact app_rows0 (m:=a0.Radio.length) (by first | rfl | (simp; done) | assumption | (simp [dsub_eq] <;> omega) | omega) (fun _ _=>rfl) | exact app_rows (m:=a0.Radio.length) (by first | rfl | (simp; done) | assumption | (simp [dsub_eq] <;> omega) | omega) (by first | rfl | (simp; done) | assumption | (simp [dsub_eq] <;> omega) | omega) (by first | exact fun _ _=>rfl | exact rows_take | (intro i hi; simp only [viewRow_eq,addOff_eq,Int.toNat_zero,Nat.zero_add,Nat.add_zero]; exact rows_take i hi) | exact rows_vt | exact rows_dt | (intro i hi; simp only [viewRow_eq,Nat.zero_add]) | (intro i hi; simp [viewRow_eq])) (by first | exact fun _ _=>rfl | exact rows_take | (intro i hi; simp only [viewRow_eq,addOff_eq,Int.toNat_zero,Nat.zero_add,Nat.add_zero]; exact rows_take i hi) | exact rows_vt | exact rows_dt | (intro i hi; simp only [viewRow_eq,Nat.zero_add]) | (intro i hi; simp [viewRow_eq])) | exact app_rows0 (m:=a0.Radio.length) (by first | rfl | (simp; done) | assumption | (simp [dsub_eq] <;> omega) | omega) (by first | exact fun _ _=>rfl | exact rows_take | (intro i hi; simp only [viewRow_eq,addOff_eq,Int.toNat_zero,Nat.zero_add,Nat.add_zero]; exact rows_take i hi) | exact rows_vt | exact rows_dt | (intro i hi; simp only [viewRow_eq,Nat.zero_add]) | (intro i hi; simp [viewRow_eq]))),?_⟩;(conv=>whnf);refine And.intro (by kernel_rfl) ?_;(conv=>whnf);obtain rfl:=Option.some.inj h;refine ⟨⟨0,28,[(2,.ref 2 0 0)],[],[(5006,.arr 113 5 a0.Radio.length (rows TreeWord.enc a0.Radio)),(5005,.arr 63 4 a0.AtB.length (rows TreeSlot.enc a0.AtB)),(5004,.arr 63 4 a0.AtA.length (rows TreeSlot.enc a0.AtA)),(5003,.arr 3 1 a0.Down.length (rows encInt a0.Down)),(5002,.arr 61 3 a0.Links.length (rows TreeLink.enc a0.Links)),(5001,.arr 58 6 a0.Bridges.length (rows TreeBridge.enc a0.Bridges)),(2,.box 36 [.osl 5001 0 a0.Bridges.length,.osl 5002 0 a0.Links.length,.osl 5003 0 a0.Down.length,.osl 5004 0 a0.AtA.length,.osl 5005 0 a0.AtB.length,.osl 5006 0 a0.Radio.length])],[]⟩,?_,And.intro rfl ?_⟩
  · refine LE.trans (S':=⟨0,28,[(2,.ref 2 0 0)],[],[(26,.arr 113 5 a0.Radio.length (rows TreeWord.enc a0.Radio)),(22,.arr 63 4 a0.AtB.length (rows TreeSlot.enc a0.AtB)),(18,.arr 63 4 a0.AtA.length (rows TreeSlot.enc a0.AtA)),(14,.arr 3 1 a0.Down.length (rows encInt a0.Down)),(10,.arr 61 3 a0.Links.length (rows TreeLink.enc a0.Links)),(6,.arr 58 6 a0.Bridges.length (rows TreeBridge.enc a0.Bridges)),(2,.box 36 [.osl 6 0 a0.Bridges.length,.osl 10 0 a0.Links.length,.osl 14 0 a0.Down.length,.osl 18 0 a0.AtA.length,.osl 22 0 a0.AtB.length,.osl 26 0 a0.Radio.length])],[]⟩) (le_mk ?_ ?_ ?_) (le_swaps [(6,5001),(10,5002),(14,5003),(18,5004),(22,5005),(26,5006)] rfl) <;> exact leA
  · exact And.intro (And.intro rfl (And.intro rfl (fun _ _=>rfl))) (And.intro (And.intro rfl (And.intro rfl (fun _ _=>rfl))) (And.intro (And.intro rfl (And.intro rfl (fun _ _=>rfl))) (And.intro (And.intro rfl (And.intro rfl (fun _ _=>rfl))) (And.intro (And.intro rfl (And.intro rfl (fun _ _=>rfl))) (And.intro (And.intro rfl (And.intro rfl (fun _ _=>rfl))) (trivial))))))
end Go.Proofs.Ytbolhcpkpncmfab
