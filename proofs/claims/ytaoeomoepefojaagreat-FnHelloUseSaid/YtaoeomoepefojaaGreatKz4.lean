/-
  What some of the program's functions compute: their models, and that the functions compute these; no condition.
-/
import Derived.Test.YtaoeomoepefojaaGreatTyz
import Derived.Test.YtaoeomoepefojaaGreatTbz
import Derived.Test.YtaoeomoepefojaaGreatAbz7
import Derived.Test.YtaoeomoepefojaaGreatKz3
set_option linter.all false
namespace Go.Proofs.YtaoeomoepefojaaGreat
open Go Go.Ab
set_option maxRecDepth 100000
set_option maxHeartbeats 40000000
noncomputable def spec_l46Event_o02f_03f_m (a0:l41Rd) (a1:HelloWorld):Option (HelloEvent × l41Rd) :=
 bd (spec_l41Rd_pick_m a0 2) fun x1 =>
 bd (α:=Int × Int) ((if (decide (((a1.Radio.length:Nat):Int) > 0))=true then
 bd (spec_l41Rd_pick_m (⟨a0.b,x1.2.p⟩:l41Rd) 3) fun x6 =>
(if ((decide (((a1.Radio.length:Nat):Int) > 0)) && (x6.1 == 0))=true then
 bd (spec_l41Rd_pick_m (⟨a0.b,x6.2.p⟩:l41Rd) ((a1.Radio.length:Nat):Int)) fun x7 =>
 some (x7.2.p,x7.1)
else
 some (x6.2.p,0))
else
(if ((decide (((a1.Radio.length:Nat):Int) > 0)) && ((0:Int) == 0))=true then
 bd (spec_l41Rd_pick_m (⟨a0.b,x1.2.p⟩:l41Rd) ((a1.Radio.length:Nat):Int)) fun x8 =>
 some (x8.2.p,x8.1)
else
 some (x1.2.p,0)))) fun x2 =>
 bd (spec_l41Rd_pick_m (⟨a0.b,x2.1⟩:l41Rd) 22) fun x9 =>
 bd (α:=Bool) ((if (x9.1 == 0)=true then
 some (x9.1 == 0)
else
(if (x9.1 == 1)=true then
 some (x9.1 == 1)
else
(if (x9.1 == 2)=true then
 some (x9.1 == 2)
else
(if (x9.1 == 3)=true then
 some (x9.1 == 3)
else
(if (x9.1 == 4)=true then
 some (x9.1 == 4)
else
 some (x9.1 == 5))))))) fun x10 =>
(if x10=true then
 some ((⟨1,x1.1,[],[],(⟨0,0,0,0,0,0,0,0,(⟨0,(⟨0,0,0,0⟩:HelloEntry)⟩:HelloChange),0⟩:HelloWord)⟩:HelloEvent),(⟨a0.b,x9.2.p⟩:l41Rd))
else
 bd (α:=Bool) ((if (x9.1 == 6)=true then
 some (x9.1 == 6)
else
(if (x9.1 == 7)=true then
 some (x9.1 == 7)
else
(if (x9.1 == 8)=true then
 some (x9.1 == 8)
else
(if (x9.1 == 9)=true then
 some (x9.1 == 9)
else
(if (x9.1 == 10)=true then
 some (x9.1 == 10)
else
(if (x9.1 == 11)=true then
 some (x9.1 == 11)
else
(if (x9.1 == 12)=true then
 some (x9.1 == 12)
else
 some (x9.1 == 13))))))))) fun x13 =>
(if x13=true then
 some ((⟨2,x2.2,[],[],(⟨0,0,0,0,0,0,0,0,(⟨0,(⟨0,0,0,0⟩:HelloEntry)⟩:HelloChange),0⟩:HelloWord)⟩:HelloEvent),(⟨a0.b,x9.2.p⟩:l41Rd))
else
(if (x9.1 == 14)=true then
 some ((⟨3,x2.2,[],[],(⟨0,0,0,0,0,0,0,0,(⟨0,(⟨0,0,0,0⟩:HelloEntry)⟩:HelloChange),0⟩:HelloWord)⟩:HelloEvent),(⟨a0.b,x9.2.p⟩:l41Rd))
else
(if (x9.1 == 15)=true then
 some ((⟨4,x2.2,[],[],(⟨0,0,0,0,0,0,0,0,(⟨0,(⟨0,0,0,0⟩:HelloEntry)⟩:HelloChange),0⟩:HelloWord)⟩:HelloEvent),(⟨a0.b,x9.2.p⟩:l41Rd))
else
(if (x9.1 == 16)=true then
 some ((⟨5,x1.1,[],[],(⟨0,0,0,0,0,0,0,0,(⟨0,(⟨0,0,0,0⟩:HelloEntry)⟩:HelloChange),0⟩:HelloWord)⟩:HelloEvent),(⟨a0.b,x9.2.p⟩:l41Rd))
else
(if (x9.1 == 17)=true then
 bd (spec_l41Rd_pick_m (⟨a0.b,x9.2.p⟩:l41Rd) 3) fun x16 =>
(if (x16.1 == 0)=true then
 some ((⟨6,x1.1,[],[],(⟨0,0,0,0,0,0,0,0,(⟨0,(⟨0,0,0,0⟩:HelloEntry)⟩:HelloChange),0⟩:HelloWord)⟩:HelloEvent),(⟨a0.b,x16.2.p⟩:l41Rd))
else
 some ((⟨5,x1.1,[],[],(⟨0,0,0,0,0,0,0,0,(⟨0,(⟨0,0,0,0⟩:HelloEntry)⟩:HelloChange),0⟩:HelloWord)⟩:HelloEvent),(⟨a0.b,x16.2.p⟩:l41Rd)))
else
(if (x9.1 == 18)=true then
 some ((⟨7,x1.1,[],[],(⟨0,0,0,0,0,0,0,0,(⟨0,(⟨0,0,0,0⟩:HelloEntry)⟩:HelloChange),0⟩:HelloWord)⟩:HelloEvent),(⟨a0.b,x9.2.p⟩:l41Rd))
else
(if (x9.1 == 19)=true then
 bd (spec_l46Table_m (⟨a0.b,x9.2.p⟩:l41Rd)) fun x17 =>
 some ((⟨8,x1.1,x17.1,[],(⟨0,0,0,0,0,0,0,0,(⟨0,(⟨0,0,0,0⟩:HelloEntry)⟩:HelloChange),0⟩:HelloWord)⟩:HelloEvent),(⟨a0.b,x17.2.p⟩:l41Rd))
else
(if (x9.1 == 20)=true then
 bd (spec_l41Rd_pick_m (⟨a0.b,x9.2.p⟩:l41Rd) 3) fun x18 =>
(if (x18.1 == 0)=true then
 bd (spec_l46Keys_m (⟨a0.b,x18.2.p⟩:l41Rd)) fun x19 =>
 some ((⟨9,x1.1,[],x19.1,(⟨0,0,0,0,0,0,0,0,(⟨0,(⟨0,0,0,0⟩:HelloEntry)⟩:HelloChange),0⟩:HelloWord)⟩:HelloEvent),(⟨a0.b,x19.2.p⟩:l41Rd))
else
 some ((⟨7,x1.1,[],[],(⟨0,0,0,0,0,0,0,0,(⟨0,(⟨0,0,0,0⟩:HelloEntry)⟩:HelloChange),0⟩:HelloWord)⟩:HelloEvent),(⟨a0.b,x18.2.p⟩:l41Rd)))
else
 bd (spec_l46Forged_m (⟨a0.b,x9.2.p⟩:l41Rd) a1) fun x20 =>
 some ((⟨10,0,[],[],x20.1⟩:HelloEvent),(⟨a0.b,x20.2.p⟩:l41Rd)))))))))))
theorem spec_l46Event_o02f_03f_c {a0:l41Rd} {a1:HelloWorld} {r:HelloEvent × l41Rd} (h:spec_l46Event_o02f_03f_m a0 a1=some r):EffC Tryz.prog 152 [.ref 9000 0 0,.agg [.d (slD HelloSide.enc a1.Sides),.d (slD HelloWord.enc a1.Radio)]] [(9000,.box 113 [.d (slD encByte a0.b),.d (.int .i64 a0.p)])] (.agg [.d (.int .i64 r.1.Kind),.d (.int .i64 r.1.At),.d (slD HelloEntry.enc r.1.Want),.d (slD HelloKey.enc r.1.Keys),.d (.int .i64 r.1.Word.From),.d (.int .i64 r.1.Word.To),.d (.int .i64 r.1.Word.Key),.d (.int .i64 r.1.Word.Boot),.d (.int .i64 r.1.Word.Yours),.d (.int .i64 r.1.Word.Turn),.d (.int .i64 r.1.Word.Num),.d (.int .i64 r.1.Word.Heard),.d (.int .i64 r.1.Word.Change.Kind),.d (.int .i64 r.1.Word.Change.Entry.Addr),.d (.int .i64 r.1.Word.Change.Entry.Len),.d (.int .i64 r.1.Word.Change.Entry.Cost),.d (.int .i64 r.1.Word.Change.Entry.Label),.d (.int .i64 r.1.Word.Sum)]) [(9000,.box 113 [.d (slD encByte a0.b),.d (.int .i64 r.2.p)])]:=by
  refine effC_x tOk (fn:=Tryz.f152) (c:=codeOf Tryz.f152) rfl rfl ?_;unfold spec_l46Event_o02f_03f_m at h;(conv=>whnf);obtain ⟨x1,hx1,h⟩:=bd_some h;refine cE [(9000,9000)] 0 (spec_l41Rd_pick_c hx1) ?_;(conv=>whnf);obtain ⟨x2,hx2,h⟩:=bd_some h;refine seq_join tOk (fun s3=>⟨0,91,[(0,.ref 9000 0 0),(3,.ref 3 0 0),(4,.ref 4 0 0),(5,.d (.int .i64 x1.1)),(6,.d (.int .i64 s3.2))],[],[(4,.box 163 [.d (.int .i64 0),.d (.int .i64 0),.d (.nil),.d (.nil),.d (.int .i64 0),.d (.int .i64 0),.d (.int .i64 0),.d (.int .i64 0),.d (.int .i64 0),.d (.int .i64 0),.d (.int .i64 0),.d (.int .i64 0),.d (.int .i64 0),.d (.int .i64 0),.d (.int .i64 0),.d (.int .i64 0),.d (.int .i64 0),.d (.int .i64 0)]),(3,.box 142 [.d (slD HelloSide.enc a1.Sides),.d (slD HelloWord.enc a1.Radio)]),(9000,.box 113 [.d (slD encByte a0.b),.d (.int .i64 s3.1)])],[⟨[(0,.ref 9000 0 0)],[]⟩]⟩) (fun s3=>x2=s3) ?_ ?_
  · (conv=>whnf);refine spI hx2 (fun hb5 hx2=>?_) (fun hb5 hx2=>?_)
    · obtain ⟨x6,hx6,hx2⟩:=bd_some hx2;refine callG_t [(9000,9000)] 0 (spec_l41Rd_pick_c hx6) (by (conv=>whnf); exact fun q=>absurd (q.symm.trans hb5) (by decide)) ?_;(conv=>whnf);refine andI hx2 (fun _ hx2=>?_) (fun _ hx2=>?_)
      · (conv=>whnf);obtain ⟨x7,hx7,hx2⟩:=bd_some hx2;refine cE [(9000,9000)] 0 (spec_l41Rd_pick_c hx7) ?_;(conv=>whnf);obtain rfl:=Option.some.inj hx2;exact ⟨_,rfl,leX []⟩
      · (conv=>whnf);obtain rfl:=Option.some.inj hx2;exact ⟨_,rfl,leX []⟩
    · refine callG_no (.d (.int .i64 0)) ?_ (by (conv=>whnf); exact fun q=>absurd (hb5.symm.trans q) (by decide));(conv=>whnf);refine andI hx2 (fun _ hx2=>?_) (fun _ hx2=>?_)
      · (conv=>whnf);obtain ⟨x8,hx8,hx2⟩:=bd_some hx2;refine cE [(9000,9000)] 0 (spec_l41Rd_pick_c hx8) ?_;(conv=>whnf);obtain rfl:=Option.some.inj hx2;exact ⟨_,rfl,leX []⟩
      · (conv=>whnf);obtain rfl:=Option.some.inj hx2;exact ⟨_,rfl,leX []⟩
  · rintro _ rfl;(conv=>whnf);refine seq_in tOk ?_;(conv=>whnf);obtain ⟨x9,hx9,h⟩:=bd_some h;refine cE [(9000,9000)] 0 (spec_l41Rd_pick_c hx9) ?_;(conv=>whnf);obtain ⟨x10,hx10,h⟩:=bd_some h;refine seq_join tOk (fun s11=>⟨0,91,[(0,.ref 9000 0 0),(3,.ref 3 0 0),(4,.ref 4 0 0),(5,.d (.int .i64 x1.1)),(6,.d (.int .i64 x2.2)),(24,.d (.int .i64 x9.1)),(25,.d (.bool s11))],[],[(4,.box 163 [.d (.int .i64 0),.d (.int .i64 0),.d (.nil),.d (.nil),.d (.int .i64 0),.d (.int .i64 0),.d (.int .i64 0),.d (.int .i64 0),.d (.int .i64 0),.d (.int .i64 0),.d (.int .i64 0),.d (.int .i64 0),.d (.int .i64 0),.d (.int .i64 0),.d (.int .i64 0),.d (.int .i64 0),.d (.int .i64 0),.d (.int .i64 0)]),(3,.box 142 [.d (slD HelloSide.enc a1.Sides),.d (slD HelloWord.enc a1.Radio)]),(9000,.box 113 [.d (slD encByte a0.b),.d (.int .i64 x9.2.p)])],[⟨[(0,.ref 9000 0 0)],[]⟩]⟩) (fun s11=>x10=s11) ?_ ?_
    · (conv=>whnf);refine andI hx10 (fun _ hx10=>?_) (fun _ hx10=>?_)
      · (conv=>whnf);obtain rfl:=Option.some.inj hx10;exact ⟨_,rfl,leX []⟩
      · (conv=>whnf);refine andI hx10 (fun _ hx10=>?_) (fun _ hx10=>?_)
        · (conv=>whnf);obtain rfl:=Option.some.inj hx10;exact ⟨_,rfl,leX []⟩
        · (conv=>whnf);refine andI hx10 (fun _ hx10=>?_) (fun _ hx10=>?_)
          · (conv=>whnf);obtain rfl:=Option.some.inj hx10;exact ⟨_,rfl,leX []⟩
          · (conv=>whnf);refine andI hx10 (fun _ hx10=>?_) (fun _ hx10=>?_)
            · (conv=>whnf);obtain rfl:=Option.some.inj hx10;exact ⟨_,rfl,leX []⟩
            · (conv=>whnf);refine andI hx10 (fun _ hx10=>?_) (fun _ hx10=>?_)
              · (conv=>whnf);obtain rfl:=Option.some.inj hx10;exact ⟨_,rfl,leX []⟩
              · (conv=>whnf);obtain rfl:=Option.some.inj hx10;exact ⟨_,rfl,leX []⟩
    · rintro _ rfl;(conv=>whnf);refine andI h (fun _ h=>?_) (fun _ h=>?_)
      · (conv=>whnf);obtain rfl:=Option.some.inj h;exact lfE []
      · (conv=>whnf);obtain ⟨x13,hx13,h⟩:=bd_some h;refine seq_join tOk (fun s14=>⟨0,91,[(0,.ref 9000 0 0),(3,.ref 3 0 0),(4,.ref 4 0 0),(5,.d (.int .i64 x1.1)),(6,.d (.int .i64 x2.2)),(24,.d (.int .i64 x9.1)),(34,.d (.bool s14))],[],[(4,.box 163 [.d (.int .i64 0),.d (.int .i64 0),.d (.nil),.d (.nil),.d (.int .i64 0),.d (.int .i64 0),.d (.int .i64 0),.d (.int .i64 0),.d (.int .i64 0),.d (.int .i64 0),.d (.int .i64 0),.d (.int .i64 0),.d (.int .i64 0),.d (.int .i64 0),.d (.int .i64 0),.d (.int .i64 0),.d (.int .i64 0),.d (.int .i64 0)]),(3,.box 142 [.d (slD HelloSide.enc a1.Sides),.d (slD HelloWord.enc a1.Radio)]),(9000,.box 113 [.d (slD encByte a0.b),.d (.int .i64 x9.2.p)])],[⟨[(0,.ref 9000 0 0)],[]⟩]⟩) (fun s14=>x13=s14) ?_ ?_
        · (conv=>whnf);refine andI hx13 (fun _ hx13=>?_) (fun _ hx13=>?_)
          · (conv=>whnf);obtain rfl:=Option.some.inj hx13;exact ⟨_,rfl,leX []⟩
          · (conv=>whnf);refine andI hx13 (fun _ hx13=>?_) (fun _ hx13=>?_)
            · (conv=>whnf);obtain rfl:=Option.some.inj hx13;exact ⟨_,rfl,leX []⟩
            · (conv=>whnf);refine andI hx13 (fun _ hx13=>?_) (fun _ hx13=>?_)
              · (conv=>whnf);obtain rfl:=Option.some.inj hx13;exact ⟨_,rfl,leX []⟩
              · (conv=>whnf);refine andI hx13 (fun _ hx13=>?_) (fun _ hx13=>?_)
                · (conv=>whnf);obtain rfl:=Option.some.inj hx13;exact ⟨_,rfl,leX []⟩
                · (conv=>whnf);refine andI hx13 (fun _ hx13=>?_) (fun _ hx13=>?_)
                  · (conv=>whnf);obtain rfl:=Option.some.inj hx13;exact ⟨_,rfl,leX []⟩
                  · (conv=>whnf);refine andI hx13 (fun _ hx13=>?_) (fun _ hx13=>?_)
                    · (conv=>whnf);obtain rfl:=Option.some.inj hx13;exact ⟨_,rfl,leX []⟩
                    · (conv=>whnf);refine andI hx13 (fun _ hx13=>?_) (fun _ hx13=>?_)
                      · (conv=>whnf);obtain rfl:=Option.some.inj hx13;exact ⟨_,rfl,leX []⟩
                      · (conv=>whnf);obtain rfl:=Option.some.inj hx13;exact ⟨_,rfl,leX []⟩
        · rintro _ rfl;(conv=>whnf);refine andI h (fun _ h=>?_) (fun _ h=>?_)
          · (conv=>whnf);obtain rfl:=Option.some.inj h;exact lfE []
          · (conv=>whnf);refine andI h (fun _ h=>?_) (fun _ h=>?_)
            · (conv=>whnf);obtain rfl:=Option.some.inj h;exact lfE []
            · (conv=>whnf);refine andI h (fun _ h=>?_) (fun _ h=>?_)
              · (conv=>whnf);obtain rfl:=Option.some.inj h;exact lfE []
              · (conv=>whnf);refine andI h (fun _ h=>?_) (fun _ h=>?_)
                · (conv=>whnf);obtain rfl:=Option.some.inj h;exact lfE []
                · (conv=>whnf);refine andI h (fun _ h=>?_) (fun _ h=>?_)
                  · (conv=>whnf);refine seq_in tOk ?_;(conv=>whnf);obtain ⟨x16,hx16,h⟩:=bd_some h;refine cE [(9000,9000)] 0 (spec_l41Rd_pick_c hx16) ?_;(conv=>whnf);refine andI h (fun _ h=>?_) (fun _ h=>?_)
                    · (conv=>whnf);obtain rfl:=Option.some.inj h;exact lfE []
                    · (conv=>whnf);obtain rfl:=Option.some.inj h;exact lfE []
                  · (conv=>whnf);refine andI h (fun _ h=>?_) (fun _ h=>?_)
                    · (conv=>whnf);obtain rfl:=Option.some.inj h;exact lfE []
                    · (conv=>whnf);refine andI h (fun _ h=>?_) (fun _ h=>?_)
                      · (conv=>whnf);obtain ⟨x17,hx17,h⟩:=bd_some h;refine cE [(9000,9000)] 1000 (spec_l46Table_c hx17) ?_;(conv=>whnf);obtain rfl:=Option.some.inj h;exact lfE [.f [6001]]
                      · (conv=>whnf);refine andI h (fun _ h=>?_) (fun _ h=>?_)
                        · (conv=>whnf);refine seq_in tOk ?_;(conv=>whnf);obtain ⟨x18,hx18,h⟩:=bd_some h;refine cE [(9000,9000)] 0 (spec_l41Rd_pick_c hx18) ?_;(conv=>whnf);refine andI h (fun _ h=>?_) (fun _ h=>?_)
                          · (conv=>whnf);obtain ⟨x19,hx19,h⟩:=bd_some h;refine cE [(9000,9000)] 1000 (spec_l46Keys_c hx19) ?_;(conv=>whnf);obtain rfl:=Option.some.inj h;exact lfE [.f [6001]]
                          · (conv=>whnf);obtain rfl:=Option.some.inj h;exact lfE []
                        · (conv=>whnf);obtain ⟨x20,hx20,h⟩:=bd_some h;refine cE [(9000,9000)] 0 (spec_l46Forged_c hx20) ?_;(conv=>whnf);obtain rfl:=Option.some.inj h;exact lfE []
noncomputable def spec_l46Play_m (a0:l41Rd) (a1:Int):Option (HelloWorld × l41Rd) :=
 bd (spec_l46Start_m a0) fun x1 =>
 bd (lp (σ:=List HelloSide × List HelloWord × Int × Int) (β:=(Nat × Nat × (List HelloSide) × (List HelloWord) × Int)) (fun s2 =>
(if (decide (s2.2.2.2 > 0))=true then
 bd (α:=List HelloSide × List HelloWord × Int) (bd (spec_l41Rd_pick_m (⟨a0.b,s2.2.2.1⟩:l41Rd) 6) fun x9 =>
(if (x9.1 == 0)=true then
 bd (spec_HelloCalm_m (⟨s2.1,s2.2.1⟩:HelloWorld) 1) fun x10 =>
 some (x10.Sides,x10.Radio,x9.2.p)
else
 some (s2.1,s2.2.1,x9.2.p))) fun x6 =>
 bd (spec_l46Event_o02f_03f_m (⟨a0.b,x6.2.2⟩:l41Rd) (⟨x6.1,x6.2.1⟩:HelloWorld)) fun x11 =>
 bd (spec_HelloStep_m (⟨x6.1,x6.2.1⟩:HelloWorld) x11.1) fun x12 =>
 some (.inl (x12.Sides,x12.Radio,x11.2.p,IntKind.i64.wrap (s2.2.2.2 - 1)))
else
 some (.inr (s2.1.length,s2.2.1.length,s2.1,s2.2.1,s2.2.2.1)))) (x1.1.Sides,x1.1.Radio,x1.2.p,a1)) fun x5 =>
 some ((⟨x5.2.2.1,x5.2.2.2.1⟩:HelloWorld),(⟨a0.b,x5.2.2.2.2⟩:l41Rd))
theorem spec_l46Play_c {a0:l41Rd} {a1:Int} {r:HelloWorld × l41Rd} (h:spec_l46Play_m a0 a1=some r):EffC Tryz.prog 131 [.ref 9000 0 0,.d (.int .i64 a1)] [(9000,.box 113 [.d (slD encByte a0.b),.d (.int .i64 a0.p)])] (.agg [.osl 5001 0 r.1.Sides.length,.osl 5002 0 r.1.Radio.length]) [(9000,.box 113 [.d (slD encByte a0.b),.d (.int .i64 r.2.p)]),(5001,.arr 145 23 r.1.Sides.length (rows HelloSide.enc r.1.Sides)),(5002,.arr 45 14 r.1.Radio.length (rows HelloWord.enc r.1.Radio))]:=by
  refine effC_x tOk (fn:=Tryz.f131) (c:=codeOf Tryz.f131) rfl rfl ?_;unfold spec_l46Play_m at h;(conv=>whnf);obtain ⟨x1,hx1,h⟩:=bd_some h;refine cE [(9000,9000)] 1000 (spec_l46Start_c hx1) ?_;(conv=>whnf);refine seq_in tOk ?_;(conv=>whnf);obtain ⟨x5,hx5,h⟩:=bd_some h;refine loop_m tOk hx5 (fun s2=>⟨0,23,[(0,.ref 9000 0 0),(1,.d (.int .i64 s2.2.2.2)),(4,.ref 4 0 0),(5,.ref 5 0 0)],[],[(5,.box 142 [.osl 6001 0 s2.1.length,.osl 6002 0 s2.2.1.length]),(6001,.arr 145 23 s2.1.length (rows HelloSide.enc s2.1)),(6002,.arr 45 14 s2.2.1.length (rows HelloWord.enc s2.2.1)),(4,.box 142 [.d (.nil),.d (.nil)]),(9000,.box 113 [.d (slD encByte a0.b),.d (.int .i64 s2.2.2.1)])],[⟨[(0,.ref 9000 0 0)],[]⟩]⟩) ?_ ?_
  · exact leX []
  · clear hx5;intro s2 y3 g4 hy3;(conv=>whnf);refine seq_in tOk ?_;(conv=>whnf);refine andI g4 (fun _ g4=>?_) (fun _ g4=>?_)
    · (conv=>whnf);refine seq_in tOk ?_;(conv=>whnf);obtain ⟨x6,hx6,g4⟩:=bd_some g4;refine seq_join tOk (fun s7=>⟨0,23,[(0,.ref 9000 0 0),(1,.d (.int .i64 s2.2.2.2)),(4,.ref 4 0 0),(5,.ref 5 0 0)],[],[(6001,.arr 145 23 s7.1.length (rows HelloSide.enc s7.1)),(6002,.arr 45 14 s7.2.1.length (rows HelloWord.enc s7.2.1)),(5,.box 142 [.osl 6001 0 s7.1.length,.osl 6002 0 s7.2.1.length]),(4,.box 142 [.d (.nil),.d (.nil)]),(9000,.box 113 [.d (slD encByte a0.b),.d (.int .i64 s7.2.2)])],[⟨[(0,.ref 9000 0 0)],[]⟩]⟩) (fun s7=>x6=s7) ?_ ?_
      · (conv=>whnf);obtain ⟨x9,hx9,hx6⟩:=bd_some hx6;refine cE [(9000,9000)] 0 (spec_l41Rd_pick_c hx9) ?_;(conv=>whnf);refine andI hx6 (fun _ hx6=>?_) (fun _ hx6=>?_)
        · (conv=>whnf);obtain ⟨x10,hx10,hx6⟩:=bd_some hx6;refine callFz [6001,6002] ?_;(conv=>whnf);refine cE [] 1000 (spec_HelloCalm_c hx10) ?_;(conv=>whnf);obtain rfl:=Option.some.inj hx6;exact ⟨_,rfl,leX []⟩
        · (conv=>whnf);obtain rfl:=Option.some.inj hx6;exact ⟨_,rfl,leX []⟩
      · rintro _ rfl;(conv=>whnf);obtain ⟨x11,hx11,g4⟩:=bd_some g4;obtain ⟨x12,hx12,g4⟩:=bd_some g4;refine drawFz [6001,6002] ?_;(conv=>whnf);refine draw_t tOk [.e 3 [(9000,.box 113 [.d (slD encByte a0.b),.d (.int .i64 x6.2.2)])] (.agg [.d (.int .i64 x11.1.Kind),.d (.int .i64 x11.1.At),.d (slD HelloEntry.enc x11.1.Want),.d (slD HelloKey.enc x11.1.Keys),.d (.int .i64 x11.1.Word.From),.d (.int .i64 x11.1.Word.To),.d (.int .i64 x11.1.Word.Key),.d (.int .i64 x11.1.Word.Boot),.d (.int .i64 x11.1.Word.Yours),.d (.int .i64 x11.1.Word.Turn),.d (.int .i64 x11.1.Word.Num),.d (.int .i64 x11.1.Word.Heard),.d (.int .i64 x11.1.Word.Change.Kind),.d (.int .i64 x11.1.Word.Change.Entry.Addr),.d (.int .i64 x11.1.Word.Change.Entry.Len),.d (.int .i64 x11.1.Word.Change.Entry.Cost),.d (.int .i64 x11.1.Word.Change.Entry.Label),.d (.int .i64 x11.1.Word.Sum)]) [] [(9000,.box 113 [.d (slD encByte a0.b),.d (.int .i64 x11.2.p)])],.e 4 [] (.agg [.osl 7001 0 x12.Sides.length,.osl 7002 0 x12.Radio.length]) [(7001,.arr 145 23 x12.Sides.length (rows HelloSide.enc x12.Sides)),(7002,.arr 45 14 x12.Radio.length (rows HelloWord.enc x12.Radio))] []] 5 [] [0,0,0,6,15] [31] [9000] ?_;(conv=>whnf);refine And.intro (eD [(9000,9000)] 0 (spec_l46Event_o02f_03f_c hx11)) ?_;(conv=>whnf);refine And.intro (eD [] 2000 (spec_HelloStep_c hx12)) ?_;(conv=>whnf);refine And.intro (by kernel_rfl) ?_;(conv=>whnf);obtain rfl:=Option.some.inj g4;exact ⟨_,rfl,leX [.s [(6001,7001),(6002,7002),(7001,6001),(7002,6002)]]⟩
    · (conv=>whnf);obtain rfl:=Option.some.inj g4;obtain rfl:=hy3 _ rfl;obtain rfl:=Option.some.inj h;exact lfE [.s [(5001,6001),(5002,6002),(6001,5001),(6002,5002)]]
noncomputable def spec_l46End_m (a0:l41Rd):Option (HelloEnd × l41Rd) :=
 bd (spec_l41Rd_pick_m a0 40) fun x1 =>
 bd (spec_l46Play_m (⟨a0.b,x1.2.p⟩:l41Rd) x1.1) fun x2 =>
 bd (spec_l41Rd_pick_m (⟨a0.b,x2.2.p⟩:l41Rd) 2) fun x3 =>
 gd ((0:Int)≤x3.1∧x3.1<((x2.1.Sides.length:Nat):Int)) <|
 bd (spec_l41Rd_pick_m (⟨a0.b,x3.2.p⟩:l41Rd) 14) fun x5 =>
(if (x5.1 == 0)=true then
 bd (spec_l41Rd_pick_m (⟨a0.b,x5.2.p⟩:l41Rd) 2) fun x6 =>
 some ({ ((x2.1.Sides.getD x3.1.toNat default).End) with Boot:=IntKind.i64.wrap (1000 - x6.1),Under:=(⟨(((x2.1.Sides.getD x3.1.toNat default).End).Under).Kind,((((x2.1.Sides.getD x3.1.toNat default).End).Under).Entry)⟩:HelloChange) },(⟨a0.b,x6.2.p⟩:l41Rd))
else
(if (x5.1 == 1)=true then
 bd (spec_l41Rd_pick_m (⟨a0.b,x5.2.p⟩:l41Rd) 2) fun x7 =>
 some ({ ((x2.1.Sides.getD x3.1.toNat default).End) with Turn:=IntKind.i64.wrap (1000000 - x7.1),Under:=(⟨(((x2.1.Sides.getD x3.1.toNat default).End).Under).Kind,((((x2.1.Sides.getD x3.1.toNat default).End).Under).Entry)⟩:HelloChange) },(⟨a0.b,x7.2.p⟩:l41Rd))
else
(if (x5.1 == 2)=true then
 bd (spec_l41Rd_pick_m (⟨a0.b,x5.2.p⟩:l41Rd) 2) fun x8 =>
 some ({ ((x2.1.Sides.getD x3.1.toNat default).End) with PeerBoot:=999,PeerTurn:=IntKind.i64.wrap (1000000 - x8.1),Under:=(⟨(((x2.1.Sides.getD x3.1.toNat default).End).Under).Kind,((((x2.1.Sides.getD x3.1.toNat default).End).Under).Entry)⟩:HelloChange) },(⟨a0.b,x8.2.p⟩:l41Rd))
else
(if (x5.1 == 3)=true then
 bd (lp (σ:=List HelloRoute × Int) (β:=((List HelloRoute))) (fun s9 =>
(if (decide (((s9.1.length:Nat):Int)<16))=true then
 bd (spec_l43Has_m s9.1 (⟨IntKind.i64.wrap (24576+s9.2),16,1,0⟩:HelloEntry)) fun x13 =>
 some (.inl (x13.1,IntKind.i64.wrap (s9.2+1)))
else
 some (.inr s9.1))) (((x2.1.Sides.getD x3.1.toNat default).End).Heard,0)) fun x12 =>
 some ({ ((x2.1.Sides.getD x3.1.toNat default).End) with PeerBoot:=5,PeerTurn:=3,Left:=2,Under:=(⟨(((x2.1.Sides.getD x3.1.toNat default).End).Under).Kind,((((x2.1.Sides.getD x3.1.toNat default).End).Under).Entry)⟩:HelloChange),Heard:=x12 },(⟨a0.b,x5.2.p⟩:l41Rd))
else
 some ({ ((x2.1.Sides.getD x3.1.toNat default).End) with Under:=(⟨(((x2.1.Sides.getD x3.1.toNat default).End).Under).Kind,((((x2.1.Sides.getD x3.1.toNat default).End).Under).Entry)⟩:HelloChange) },(⟨a0.b,x5.2.p⟩:l41Rd))))))
theorem spec_l46End_c {a0:l41Rd} {r:HelloEnd × l41Rd} (h:spec_l46End_m a0=some r):EffC Tryz.prog 97 [.ref 9000 0 0] [(9000,.box 113 [.d (slD encByte a0.b),.d (.int .i64 a0.p)])] (.agg [.d (.int .i64 r.1.Name),.d (.int .i64 r.1.Peer),.d (slD HelloKey.enc r.1.Keys),.d (.int .i64 r.1.Boot),.d (slD HelloEntry.enc r.1.Want),.d (.int .i64 r.1.Turn),.d (.int .i64 r.1.PeerBoot),.d (.int .i64 r.1.PeerTurn),.d (.bool r.1.Up),.d (.int .i64 r.1.Left),.d (.int .i64 r.1.Num),.d (.int .i64 r.1.Under.Kind),.d (.int .i64 r.1.Under.Entry.Addr),.d (.int .i64 r.1.Under.Entry.Len),.d (.int .i64 r.1.Under.Entry.Cost),.d (.int .i64 r.1.Under.Entry.Label),.d (slD HelloEntry.enc r.1.Told),.d (.bool r.1.All),.d (.int .i64 r.1.Got),.d (.bool r.1.Full),.d (slD HelloRoute.enc r.1.Heard),.d (.int .i64 r.1.Keep)]) [(9000,.box 113 [.d (slD encByte a0.b),.d (.int .i64 r.2.p)])]:=by
  refine effC_x tOk (fn:=Tryz.f97) (c:=codeOf Tryz.f97) rfl rfl ?_;unfold spec_l46End_m at h;(conv=>whnf);obtain ⟨x1,hx1,h⟩:=bd_some h;refine cE [(9000,9000)] 0 (spec_l41Rd_pick_c hx1) ?_;(conv=>whnf);obtain ⟨x2,hx2,h⟩:=bd_some h;refine cE [(9000,9000)] 1000 (spec_l46Play_c hx2) ?_;(conv=>whnf);obtain ⟨x3,hx3,h⟩:=bd_some h;obtain ⟨g4,h⟩:=gd_some h;refine draw_t tOk [.e 3 [(9000,.box 113 [.d (slD encByte a0.b),.d (.int .i64 x2.2.p)])] (.d (.int .i64 x3.1)) [] [(9000,.box 113 [.d (slD encByte a0.b),.d (.int .i64 x3.2.p)])]] 8 [] [0,1,0,4,15,31,63,0] [255] [9000] ?_;(conv=>whnf);refine And.intro (eD [(9000,9000)] 0 (spec_l41Rd_pick_c hx3)) ?_;(conv=>whnf);refine And.intro g4 ?_;clear g4;(conv=>whnf);refine And.intro (by kernel_rfl) ?_;(conv=>whnf);refine seq_in tOk ?_;(conv=>whnf);obtain ⟨x5,hx5,h⟩:=bd_some h;refine cE [(9000,9000)] 0 (spec_l41Rd_pick_c hx5) ?_;(conv=>whnf);refine andI h (fun _ h=>?_) (fun _ h=>?_)
  · (conv=>whnf);obtain ⟨x6,hx6,h⟩:=bd_some h;refine cE [(9000,9000)] 0 (spec_l41Rd_pick_c hx6) ?_;(conv=>whnf);obtain rfl:=Option.some.inj h;exact lfE []
  · (conv=>whnf);refine andI h (fun _ h=>?_) (fun _ h=>?_)
    · (conv=>whnf);obtain ⟨x7,hx7,h⟩:=bd_some h;refine cE [(9000,9000)] 0 (spec_l41Rd_pick_c hx7) ?_;(conv=>whnf);obtain rfl:=Option.some.inj h;exact lfE []
    · (conv=>whnf);refine andI h (fun _ h=>?_) (fun _ h=>?_)
      · (conv=>whnf);obtain ⟨x8,hx8,h⟩:=bd_some h;refine cE [(9000,9000)] 0 (spec_l41Rd_pick_c hx8) ?_;(conv=>whnf);obtain rfl:=Option.some.inj h;exact lfE []
      · (conv=>whnf);refine andI h (fun _ h=>?_) (fun _ h=>?_)
        · (conv=>whnf);refine seq_in tOk ?_;(conv=>whnf);obtain ⟨x12,hx12,h⟩:=bd_some h;refine loop_m tOk hx12 (fun s9=>⟨0,63,[(2,.ref 2 0 0),(4,.ref 4 0 0),(5,.d (.int .i64 s9.2))],[],[(4,.box 41 [.d (.int .i64 (((x2.1.Sides.getD x3.1.toNat default).End).Name)),.d (.int .i64 (((x2.1.Sides.getD x3.1.toNat default).End).Peer)),.d (slD HelloKey.enc (((x2.1.Sides.getD x3.1.toNat default).End).Keys)),.d (.int .i64 (((x2.1.Sides.getD x3.1.toNat default).End).Boot)),.d (slD HelloEntry.enc (((x2.1.Sides.getD x3.1.toNat default).End).Want)),.d (.int .i64 (((x2.1.Sides.getD x3.1.toNat default).End).Turn)),.d (.int .i64 (((x2.1.Sides.getD x3.1.toNat default).End).PeerBoot)),.d (.int .i64 (((x2.1.Sides.getD x3.1.toNat default).End).PeerTurn)),.d (.bool (((x2.1.Sides.getD x3.1.toNat default).End).Up)),.d (.int .i64 (((x2.1.Sides.getD x3.1.toNat default).End).Left)),.d (.int .i64 (((x2.1.Sides.getD x3.1.toNat default).End).Num)),.d (.int .i64 ((((x2.1.Sides.getD x3.1.toNat default).End).Under).Kind)),.d (.int .i64 (((((x2.1.Sides.getD x3.1.toNat default).End).Under).Entry).Addr)),.d (.int .i64 (((((x2.1.Sides.getD x3.1.toNat default).End).Under).Entry).Len)),.d (.int .i64 (((((x2.1.Sides.getD x3.1.toNat default).End).Under).Entry).Cost)),.d (.int .i64 (((((x2.1.Sides.getD x3.1.toNat default).End).Under).Entry).Label)),.d (slD HelloEntry.enc (((x2.1.Sides.getD x3.1.toNat default).End).Told)),.d (.bool (((x2.1.Sides.getD x3.1.toNat default).End).All)),.d (.int .i64 (((x2.1.Sides.getD x3.1.toNat default).End).Got)),.d (.bool (((x2.1.Sides.getD x3.1.toNat default).End).Full)),.d (slD HelloRoute.enc s9.1),.d (.int .i64 (((x2.1.Sides.getD x3.1.toNat default).End).Keep))]),(2,.box 41 [.d (.int .i64 0),.d (.int .i64 0),.d (.nil),.d (.int .i64 0),.d (.nil),.d (.int .i64 0),.d (.int .i64 0),.d (.int .i64 0),.d (.bool false),.d (.int .i64 0),.d (.int .i64 0),.d (.int .i64 0),.d (.int .i64 0),.d (.int .i64 0),.d (.int .i64 0),.d (.int .i64 0),.d (.nil),.d (.bool false),.d (.int .i64 0),.d (.bool false),.d (.nil),.d (.int .i64 0)]),(9000,.box 113 [.d (slD encByte a0.b),.d (.int .i64 x5.2.p)])],[⟨[(0,.ref 9000 0 0)],[]⟩]⟩) ?_ ?_
          · exact leX []
          · clear hx12;intro s9 y10 g11 hy10;(conv=>whnf);refine seq_in tOk ?_;(conv=>whnf);refine andI g11 (fun _ g11=>?_) (fun _ g11=>?_)
            · (conv=>whnf);refine seq_in tOk ?_;(conv=>whnf);obtain ⟨x13,hx13,g11⟩:=bd_some g11;refine cE [] 0 (spec_l43Has_c hx13) ?_;(conv=>whnf);obtain rfl:=Option.some.inj g11;exact ⟨_,rfl,leX []⟩
            · (conv=>whnf);obtain rfl:=Option.some.inj g11;obtain rfl:=hy10 _ rfl;obtain rfl:=Option.some.inj h;exact lfE []
        · (conv=>whnf);obtain rfl:=Option.some.inj h;exact lfE []
noncomputable def spec_l46SpoilKeys_m (a0:l41Rd) (a1:(List HelloKey)):Option ((List HelloKey) × l41Rd) :=
 bd (spec_l42Keys_m a1) fun x1 =>
(if (((x1.length:Nat):Int) == 0)=true then
 some (x1,a0)
else
 bd (spec_l41Rd_pick_m a0 ((x1.length:Nat):Int)) fun x2 =>
 bd (spec_l41Rd_pick_m (⟨a0.b,x2.2.p⟩:l41Rd) 4) fun x3 =>
(if (x3.1 == 0)=true then
 bd (spec_l41Rd_pick_m (⟨a0.b,x3.2.p⟩:l41Rd) 4) fun x4 =>
 gd ((0:Int)≤x4.1∧x4.1<((([0,10,-1,9]:List Int).length:Nat):Int)) <|
 gd ((0:Int)≤x2.1∧x2.1<((x1.length:Nat):Int)) <|
 bd (some (x1.set x2.1.toNat (⟨(([0,10,-1,9]:List Int).getD x4.1.toNat default),(x1.getD x2.1.toNat default).Secret⟩:HelloKey))) fun x7 =>
 some (x7,(⟨a0.b,x4.2.p⟩:l41Rd))
else
(if (x3.1 == 1)=true then
 bd (spec_l41Rd_pick_m (⟨a0.b,x3.2.p⟩:l41Rd) 4) fun x8 =>
 gd ((0:Int)≤x8.1∧x8.1<((([0,-1,2147483647,2147483646]:List Int).length:Nat):Int)) <|
 gd ((0:Int)≤x2.1∧x2.1<((x1.length:Nat):Int)) <|
 bd (some (x1.set x2.1.toNat (⟨(x1.getD x2.1.toNat default).Id,(([0,-1,2147483647,2147483646]:List Int).getD x8.1.toNat default)⟩:HelloKey))) fun x11 =>
 some (x11,(⟨a0.b,x8.2.p⟩:l41Rd))
else
(if (x3.1 == 2)=true then
 gd ((0:Int)≤x2.1∧x2.1<((x1.length:Nat):Int)) <|
 gd (((x1.length)+(([(x1.getD x2.1.toNat default)]:List HelloKey).length))*(16+1)≤70368744177664) <|
 some ((x1 ++ ([(x1.getD x2.1.toNat default)]:List HelloKey)),(⟨a0.b,x3.2.p⟩:l41Rd))
else
 bd (spec_l41Rd_pick_m (⟨a0.b,x3.2.p⟩:l41Rd) 2) fun x14 =>
 gd ((0:Int)≤(0:Int)∧(0:Int)≤IntKind.i64.wrap (3+x14.1)∧IntKind.i64.wrap (3+x14.1)≤((([(⟨1,1⟩:HelloKey),(⟨2,1⟩:HelloKey),(⟨3,1⟩:HelloKey),(⟨4,1⟩:HelloKey)]:List HelloKey).length:Nat):Int)) <|
 some (([(⟨1,1⟩:HelloKey),(⟨2,1⟩:HelloKey),(⟨3,1⟩:HelloKey),(⟨4,1⟩:HelloKey)]:List HelloKey).take ((IntKind.i64.wrap (3+x14.1)).toNat),(⟨a0.b,x14.2.p⟩:l41Rd))))))
theorem spec_l46SpoilKeys_c {a0:l41Rd} {a1:(List HelloKey)} {r:(List HelloKey) × l41Rd} (h:spec_l46SpoilKeys_m a0 a1=some r):EffC Tryz.prog 132 [.ref 9000 0 0,.d (slD HelloKey.enc a1)] [(9000,.box 113 [.d (slD encByte a0.b),.d (.int .i64 a0.p)])] (.osl 5001 0 r.1.length) [(9000,.box 113 [.d (slD encByte a0.b),.d (.int .i64 r.2.p)]),(5001,.arr 90 2 r.1.length (rows HelloKey.enc r.1))]:=by
  refine effC_x tOk (fn:=Tryz.f132) (c:=codeOf Tryz.f132) rfl rfl ?_;unfold spec_l46SpoilKeys_m at h;(conv=>whnf);obtain ⟨x1,hx1,h⟩:=bd_some h;refine cC 1000 (spec_l42Keys_c hx1) ?_;clear hx1;(conv=>whnf);refine seq_in tOk ?_;(conv=>whnf);refine andI h (fun _ h=>?_) (fun _ h=>?_)
  · (conv=>whnf);obtain rfl:=Option.some.inj h;exact lfE [.s [(5001,6001),(6001,5001)]]
  · (conv=>whnf);obtain ⟨x2,hx2,h⟩:=bd_some h;refine cE [(9000,9000)] 0 (spec_l41Rd_pick_c hx2) ?_;(conv=>whnf);refine seq_in tOk ?_;(conv=>whnf);obtain ⟨x3,hx3,h⟩:=bd_some h;refine cE [(9000,9000)] 0 (spec_l41Rd_pick_c hx3) ?_;(conv=>whnf);refine andI h (fun _ h=>?_) (fun _ h=>?_)
    · (conv=>whnf);refine bldS (enc:=encInt) ([0,10,-1,9]:List Int) ?_;(conv=>whnf);obtain ⟨x4,hx4,h⟩:=bd_some h;refine cE [(9000,9000)] 0 (spec_l41Rd_pick_c hx4) ?_;(conv=>whnf);refine gdI h (fun h=>?_);(conv=>whnf);refine gdI h (fun h=>?_);(conv=>whnf);obtain ⟨x7,hx7,hlx7,h⟩:=bd_set h;refine setS (enc:=HelloKey.enc) hx7 ?_;(conv=>whnf);obtain rfl:=Option.some.inj h;exact lfE [.s [(5001,6001),(6001,5001)]]
    · (conv=>whnf);refine andI h (fun _ h=>?_) (fun _ h=>?_)
      · (conv=>whnf);refine bldS (enc:=encInt) ([0,-1,2147483647,2147483646]:List Int) ?_;(conv=>whnf);obtain ⟨x8,hx8,h⟩:=bd_some h;refine cE [(9000,9000)] 0 (spec_l41Rd_pick_c hx8) ?_;(conv=>whnf);refine gdI h (fun h=>?_);(conv=>whnf);refine gdI h (fun h=>?_);(conv=>whnf);obtain ⟨x11,hx11,hlx11,h⟩:=bd_set h;refine setS (enc:=HelloKey.enc) hx11 ?_;(conv=>whnf);obtain rfl:=Option.some.inj h;exact lfE [.s [(5001,6001),(6001,5001)]]
      · (conv=>whnf);refine andI h (fun _ h=>?_) (fun _ h=>?_)
        · (conv=>whnf);refine gdI h (fun h=>?_);(conv=>whnf);refine bldS (enc:=HelloKey.enc) ([(x1.getD x2.1.toNat default)]:List HelloKey) ?_;(conv=>whnf);refine gdI h (fun h=>?_);refine appS (enc:=HelloKey.enc) (xs:=x1) (ys:=([(x1.getD x2.1.toNat default)]:List HelloKey)) ?_;(conv=>whnf);obtain rfl:=Option.some.inj h;exact lfE [.s [(5001,6001),(6001,5001)]]
        · (conv=>whnf);refine bldS (enc:=HelloKey.enc) ([(⟨1,1⟩:HelloKey),(⟨2,1⟩:HelloKey),(⟨3,1⟩:HelloKey),(⟨4,1⟩:HelloKey)]:List HelloKey) ?_;(conv=>whnf);obtain ⟨x14,hx14,h⟩:=bd_some h;refine cE [(9000,9000)] 0 (spec_l41Rd_pick_c hx14) ?_;(conv=>whnf);obtain ⟨g15,h⟩:=gd_some h;refine And.intro g15 ?_;(conv=>whnf);obtain rfl:=Option.some.inj h
          try simp only [List.length_cons,List.length_nil] at *
          try simp only [List.length_cons,List.length_nil] at *
          try simp only [List.length_cons,List.length_nil] at *
          try simp only [List.length_cons,List.length_nil] at *
          try simp only [List.length_cons,List.length_nil] at *
          try simp only [List.length_cons,List.length_nil] at *
          try simp only [List.length_cons,List.length_nil] at *
          try simp only [List.length_cons,List.length_nil] at *
          try simp only [List.length_cons,List.length_nil] at *
          try simp only [List.length_cons,List.length_nil] at *
          try simp only [List.length_cons,List.length_nil] at *
          try simp only [List.length_cons,List.length_nil] at *
          try simp only [List.length_cons,List.length_nil] at *
          try simp only [List.length_cons,List.length_nil] at *
          try simp only [List.length_cons,List.length_nil] at *
          try simp only [List.length_cons,List.length_nil] at *
          try simp only [List.length_cons,List.length_nil] at *
          try simp only [List.length_cons,List.length_nil] at *
          try simp only [List.length_cons,List.length_nil] at *
          try simp only [List.length_cons,List.length_nil] at *
          try simp only [List.length_cons,List.length_nil] at *
          try simp only [List.length_cons,List.length_nil] at *
          try simp only [List.length_cons,List.length_nil] at *
          try simp only [List.length_cons,List.length_nil] at *
          try simp only [List.length_cons,List.length_nil] at *
          try simp only [List.length_cons,List.length_nil] at *
          try simp only [List.length_cons,List.length_nil] at *
          try simp only [List.length_cons,List.length_nil] at *
          try simp only [List.length_cons,List.length_nil] at *
          try simp only [List.length_cons,List.length_nil] at *
          try simp only [List.length_cons,List.length_nil] at *
          try simp only [List.length_cons,List.length_nil] at *
          try simp only [List.length_cons,List.length_nil] at *
          try simp only [List.length_cons,List.length_nil] at *
          try simp only [List.length_cons,List.length_nil] at *
          try simp only [List.length_cons,List.length_nil] at *
          try simp only [List.length_cons,List.length_nil] at *
          try simp only [List.length_cons,List.length_nil] at *
          try simp only [List.length_cons,List.length_nil] at *
          try simp only [List.length_cons,List.length_nil] at *
          try simp only [List.length_cons,List.length_nil] at *
          try simp only [List.length_cons,List.length_nil] at *
          try simp only [List.length_cons,List.length_nil] at *
          try simp only [List.length_cons,List.length_nil] at *
          try simp only [List.length_cons,List.length_nil] at *
          try simp only [List.length_cons,List.length_nil] at *
          try simp only [List.length_cons,List.length_nil] at *
          try simp only [List.length_cons,List.length_nil] at *
          try simp only [List.length_cons,List.length_nil] at *
          try simp only [List.length_cons,List.length_nil] at *
          try simp only [List.length_cons,List.length_nil] at *
          try simp only [List.length_cons,List.length_nil] at *
          try simp only [List.length_cons,List.length_nil] at *
          try simp only [List.length_cons,List.length_nil] at *
          try simp only [List.length_cons,List.length_nil] at *
          try simp only [List.length_cons,List.length_nil] at *
          try simp only [List.length_cons,List.length_nil] at *
          try simp only [List.length_cons,List.length_nil] at *
          try simp only [List.length_cons,List.length_nil] at *
          try simp only [List.length_cons,List.length_nil] at *
          try simp only [List.length_cons,List.length_nil] at *
          try simp only [List.length_cons,List.length_nil] at *
          try simp only [List.length_cons,List.length_nil] at *
          try simp only [List.length_cons,List.length_nil] at *
          try simp only [List.length_cons,List.length_nil] at *
          try simp only [List.length_cons,List.length_nil] at *
          try simp only [List.length_cons,List.length_nil] at *
          try simp only [List.length_cons,List.length_nil] at *
          try simp only [List.length_cons,List.length_nil] at *
          try simp only [List.length_cons,List.length_nil] at *
          try simp only [List.length_cons,List.length_nil] at *
          try simp only [List.length_cons,List.length_nil] at *
          try simp only [List.length_cons,List.length_nil] at *
          try simp only [List.length_cons,List.length_nil] at *
          try simp only [List.length_cons,List.length_nil] at *
          try simp only [List.length_cons,List.length_nil] at *
          try simp only [List.length_cons,List.length_nil] at *
          try simp only [List.length_cons,List.length_nil] at *
          try simp only [List.length_cons,List.length_nil] at *
          try simp only [List.length_cons,List.length_nil] at *
          try simp only [List.length_cons,List.length_nil] at *
          try simp only [List.length_cons,List.length_nil] at *
          try simp only [List.length_cons,List.length_nil] at *
          try simp only [List.length_cons,List.length_nil] at *
          try simp only [List.length_cons,List.length_nil] at *
          try simp only [List.length_cons,List.length_nil] at *
          try simp only [List.length_cons,List.length_nil] at *
          try simp only [List.length_cons,List.length_nil] at *
          try simp only [List.length_cons,List.length_nil] at *
          try simp only [List.length_cons,List.length_nil] at *
          try simp only [List.length_cons,List.length_nil] at *
          try simp only [List.length_cons,List.length_nil] at *
          try simp only [List.length_cons,List.length_nil] at *
          try simp only [List.length_cons,List.length_nil] at *
          try simp only [List.length_cons,List.length_nil] at *
          try simp only [List.length_cons,List.length_nil] at *
          try simp only [List.length_cons,List.length_nil] at *
          try simp only [List.length_cons,List.length_nil] at *
          try simp only [List.length_cons,List.length_nil] at *
          try simp only [List.length_cons,List.length_nil] at *
          try simp only [List.length_cons,List.length_nil] at *
          try simp only [List.length_cons,List.length_nil] at *
          try simp only [List.length_cons,List.length_nil] at *
          try simp only [List.length_cons,List.length_nil] at *
          try simp only [List.length_cons,List.length_nil] at *
          try simp only [List.length_cons,List.length_nil] at *
          try simp only [List.length_cons,List.length_nil] at *
          try simp only [List.length_cons,List.length_nil] at *
          try simp only [List.length_cons,List.length_nil] at *
          try simp only [List.length_cons,List.length_nil] at *
          try simp only [List.length_cons,List.length_nil] at *
          try simp only [List.length_cons,List.length_nil] at *
          try simp only [List.length_cons,List.length_nil] at *
          try simp only [List.length_cons,List.length_nil] at *
          try simp only [List.length_cons,List.length_nil] at *
          try simp only [List.length_cons,List.length_nil] at *
          try simp only [List.length_cons,List.length_nil] at *
          try simp only [List.length_cons,List.length_nil] at *
          try simp only [List.length_cons,List.length_nil] at *
          try simp only [List.length_cons,List.length_nil] at *
          try simp only [List.length_cons,List.length_nil] at *
          exact lfE [.c 4,.s [(23,5001),(5001,23)]]
noncomputable def spec_l46SpoilEntry_m (a0:l41Rd) (a1:HelloEntry):Option (HelloEntry × l41Rd) :=
 bd (spec_l41Rd_pick_m a0 4) fun x1 =>
(if (x1.1 == 0)=true then
 bd (spec_l41Rd_pick_m (⟨a0.b,x1.2.p⟩:l41Rd) 3) fun x2 =>
 gd ((0:Int)≤x2.1∧x2.1<((([-1,65536,IntKind.i64.wrap (a1.Addr+1)]:List Int).length:Nat):Int)) <|
 some ({ a1 with Addr:=(([-1,65536,IntKind.i64.wrap (a1.Addr+1)]:List Int).getD x2.1.toNat default) },(⟨a0.b,x2.2.p⟩:l41Rd))
else
(if (x1.1 == 1)=true then
 bd (spec_l41Rd_pick_m (⟨a0.b,x1.2.p⟩:l41Rd) 4) fun x4 =>
 gd ((0:Int)≤x4.1∧x4.1<((([-1,17,16,0]:List Int).length:Nat):Int)) <|
 some ({ a1 with Len:=(([-1,17,16,0]:List Int).getD x4.1.toNat default) },(⟨a0.b,x4.2.p⟩:l41Rd))
else
(if (x1.1 == 2)=true then
 bd (spec_l41Rd_pick_m (⟨a0.b,x1.2.p⟩:l41Rd) 5) fun x6 =>
 gd ((0:Int)≤x6.1∧x6.1<((([0,1,255,256,-1]:List Int).length:Nat):Int)) <|
 some ({ a1 with Cost:=(([0,1,255,256,-1]:List Int).getD x6.1.toNat default) },(⟨a0.b,x6.2.p⟩:l41Rd))
else
 bd (spec_l41Rd_pick_m (⟨a0.b,x1.2.p⟩:l41Rd) 3) fun x8 =>
 gd ((0:Int)≤x8.1∧x8.1<((([-1,1000,1001]:List Int).length:Nat):Int)) <|
 some ({ a1 with Label:=(([-1,1000,1001]:List Int).getD x8.1.toNat default) },(⟨a0.b,x8.2.p⟩:l41Rd)))))
theorem spec_l46SpoilEntry_c {a0:l41Rd} {a1:HelloEntry} {r:HelloEntry × l41Rd} (h:spec_l46SpoilEntry_m a0 a1=some r):EffC Tryz.prog 134 [.ref 9000 0 0,.agg [.d (.int .i64 a1.Addr),.d (.int .i64 a1.Len),.d (.int .i64 a1.Cost),.d (.int .i64 a1.Label)]] [(9000,.box 113 [.d (slD encByte a0.b),.d (.int .i64 a0.p)])] (.agg [.d (.int .i64 r.1.Addr),.d (.int .i64 r.1.Len),.d (.int .i64 r.1.Cost),.d (.int .i64 r.1.Label)]) [(9000,.box 113 [.d (slD encByte a0.b),.d (.int .i64 r.2.p)])]:=by
  refine effC_x tOk (fn:=Tryz.f134) (c:=codeOf Tryz.f134) rfl rfl ?_;unfold spec_l46SpoilEntry_m at h;(conv=>whnf);refine seq_in tOk ?_;(conv=>whnf);obtain ⟨x1,hx1,h⟩:=bd_some h;refine cE [(9000,9000)] 0 (spec_l41Rd_pick_c hx1) ?_;(conv=>whnf);refine andI h (fun _ h=>?_) (fun _ h=>?_)
  · (conv=>whnf);obtain ⟨x2,hx2,h⟩:=bd_some h;obtain ⟨g3,h⟩:=gd_some h;refine draw_t tOk [.e 5 [(9000,.box 113 [.d (slD encByte a0.b),.d (.int .i64 x1.2.p)])] (.d (.int .i64 x2.1)) [] [(9000,.box 113 [.d (slD encByte a0.b),.d (.int .i64 x2.2.p)])]] 9 [] [0,1,3,7,0,16,63,127,255] [511] [9000] ?_;(conv=>whnf);refine bldS (enc:=encInt) ([-1,65536,IntKind.i64.wrap (a1.Addr+1)]:List Int) ?_;(conv=>whnf);refine And.intro (eD [(9000,9000)] 0 (spec_l41Rd_pick_c hx2)) ?_;(conv=>whnf);refine And.intro g3 ?_;clear g3;(conv=>whnf);refine And.intro (by kernel_rfl) ?_;(conv=>whnf);obtain rfl:=Option.some.inj h;exact lfE []
  · (conv=>whnf);refine andI h (fun _ h=>?_) (fun _ h=>?_)
    · (conv=>whnf);refine bldS (enc:=encInt) ([-1,17,16,0]:List Int) ?_;(conv=>whnf);obtain ⟨x4,hx4,h⟩:=bd_some h;refine cE [(9000,9000)] 0 (spec_l41Rd_pick_c hx4) ?_;(conv=>whnf);refine gdI h (fun h=>?_);(conv=>whnf);obtain rfl:=Option.some.inj h;exact lfE []
    · (conv=>whnf);refine andI h (fun _ h=>?_) (fun _ h=>?_)
      · (conv=>whnf);refine bldS (enc:=encInt) ([0,1,255,256,-1]:List Int) ?_;(conv=>whnf);obtain ⟨x6,hx6,h⟩:=bd_some h;refine cE [(9000,9000)] 0 (spec_l41Rd_pick_c hx6) ?_;(conv=>whnf);refine gdI h (fun h=>?_);(conv=>whnf);obtain rfl:=Option.some.inj h;exact lfE []
      · (conv=>whnf);refine bldS (enc:=encInt) ([-1,1000,1001]:List Int) ?_;(conv=>whnf);obtain ⟨x8,hx8,h⟩:=bd_some h;refine cE [(9000,9000)] 0 (spec_l41Rd_pick_c hx8) ?_;(conv=>whnf);refine gdI h (fun h=>?_);(conv=>whnf);obtain rfl:=Option.some.inj h;exact lfE []
noncomputable def spec_l46SpoilTable_m (a0:l41Rd) (a1:(List HelloEntry)):Option ((List HelloEntry) × l41Rd) :=
 bd (spec_l42Table_m a1) fun x1 =>
 bd (α:=Int ⊕ (Nat × (List HelloEntry) × Int)) ((if (((x1.length:Nat):Int) == 0)=true then
(if ((((x1.length:Nat):Int) == 0) || ((0:Int) == 0))=true then
 bd (lp (σ:=List HelloEntry × Int × Int) (β:=(Nat × (List HelloEntry) × Int)) (fun s14 =>
 bd (spec_l41Rd_pick_m (⟨a0.b,s14.2.1⟩:l41Rd) 2) fun x18 =>
(if (decide (s14.2.2<(IntKind.i64.wrap (8+x18.1))))=true then
 gd (((s14.1.length)+(([(⟨IntKind.i64.wrap (61440+s14.2.2),16,1,0⟩:HelloEntry)]:List HelloEntry).length))*(32+1)≤70368744177664) <|
 some (.inl ((s14.1 ++ ([(⟨IntKind.i64.wrap (61440+s14.2.2),16,1,0⟩:HelloEntry)]:List HelloEntry)),x18.2.p,IntKind.i64.wrap (s14.2.2+1)))
else
 some (.inr (s14.1.length,s14.1,x18.2.p)))) (x1,a0.p,0)) fun x17 =>
 some (.inr (x17.1,x17.2.1,x17.2.2))
else
 some (.inl a0.p))
else
 bd (spec_l41Rd_pick_m a0 4) fun x6 =>
(if ((((x1.length:Nat):Int) == 0) || (x6.1 == 0))=true then
 bd (lp (σ:=List HelloEntry × Int × Int) (β:=(Nat × (List HelloEntry) × Int)) (fun s7 =>
 bd (spec_l41Rd_pick_m (⟨a0.b,s7.2.1⟩:l41Rd) 2) fun x11 =>
(if (decide (s7.2.2<(IntKind.i64.wrap (8+x11.1))))=true then
 gd (((s7.1.length)+(([(⟨IntKind.i64.wrap (61440+s7.2.2),16,1,0⟩:HelloEntry)]:List HelloEntry).length))*(32+1)≤70368744177664) <|
 some (.inl ((s7.1 ++ ([(⟨IntKind.i64.wrap (61440+s7.2.2),16,1,0⟩:HelloEntry)]:List HelloEntry)),x11.2.p,IntKind.i64.wrap (s7.2.2+1)))
else
 some (.inr (s7.1.length,s7.1,x11.2.p)))) (x1,x6.2.p,0)) fun x10 =>
 some (.inr (x10.1,x10.2.1,x10.2.2))
else
 some (.inl x6.2.p)))) fun x2 =>
(match x2 with
| .inl d4 =>
 bd (spec_l41Rd_pick_m (⟨a0.b,d4⟩:l41Rd) ((x1.length:Nat):Int)) fun x21 =>
 bd (spec_l41Rd_pick_m (⟨a0.b,x21.2.p⟩:l41Rd) 3) fun x22 =>
(if (x22.1 == 0)=true then
 gd ((0:Int)≤x21.1∧x21.1<((x1.length:Nat):Int)) <|
 gd (((x1.length)+(([(x1.getD x21.1.toNat default)]:List HelloEntry).length))*(32+1)≤70368744177664) <|
 some ((x1 ++ ([(x1.getD x21.1.toNat default)]:List HelloEntry)),(⟨a0.b,x22.2.p⟩:l41Rd))
else
 gd ((0:Int)≤x21.1∧x21.1<((x1.length:Nat):Int)) <|
 bd (spec_l46SpoilEntry_m (⟨a0.b,x22.2.p⟩:l41Rd) (x1.getD x21.1.toNat default)) fun x26 =>
 gd ((0:Int)≤x21.1∧x21.1<((x1.length:Nat):Int)) <|
 some (x1.set x21.1.toNat x26.1,(⟨a0.b,x26.2.p⟩:l41Rd)))
| .inr d28 =>
 some (d28.2.1,(⟨a0.b,d28.2.2⟩:l41Rd)))
theorem spec_l46SpoilTable_c {a0:l41Rd} {a1:(List HelloEntry)} {r:(List HelloEntry) × l41Rd} (h:spec_l46SpoilTable_m a0 a1=some r):EffC Tryz.prog 133 [.ref 9000 0 0,.d (slD HelloEntry.enc a1)] [(9000,.box 113 [.d (slD encByte a0.b),.d (.int .i64 a0.p)])] (.osl 5001 0 r.1.length) [(9000,.box 113 [.d (slD encByte a0.b),.d (.int .i64 r.2.p)]),(5001,.arr 36 4 r.1.length (rows HelloEntry.enc r.1))]:=by
  refine effC_x tOk (fn:=Tryz.f133) (c:=codeOf Tryz.f133) rfl rfl ?_;unfold spec_l46SpoilTable_m at h;(conv=>whnf);obtain ⟨x1,hx1,h⟩:=bd_some h;refine cC 1000 (spec_l42Table_c hx1) ?_;clear hx1;(conv=>whnf);obtain ⟨x2,hx2,h⟩:=bd_some h;refine seq_join tOk (fun s3=>⟨0,56,[(0,.ref 9000 0 0),(5,.osl 6001 0 x1.length)],[],[(6001,.arr 36 4 x1.length (rows HelloEntry.enc x1)),(9000,.box 113 [.d (slD encByte a0.b),.d (.int .i64 s3)])],[⟨[(0,.ref 9000 0 0)],[]⟩]⟩) (fun s3=>x2=.inl s3) ?_ ?_
  · (conv=>whnf);refine spI hx2 (fun hb5 hx2=>?_) (fun hb5 hx2=>?_)
    · refine callG_no (.d (.int .i64 0)) ?_ (by (conv=>whnf); exact fun q=>absurd (hb5.symm.trans q) (by decide));(conv=>whnf);refine andI hx2 (fun _ hx2=>?_) (fun _ hx2=>?_)
      · (conv=>whnf);refine seq_in tOk ?_;(conv=>whnf);obtain ⟨x17,hx17,hx2⟩:=bd_some hx2;refine loop_m tOk hx17 (fun s14=>⟨0,56,[(0,.ref 9000 0 0),(5,.osl 6001 0 s14.1.length),(6,.d (.int .i64 s14.2.2))],[],[(6001,.arr 36 4 s14.1.length (rows HelloEntry.enc s14.1)),(9000,.box 113 [.d (slD encByte a0.b),.d (.int .i64 s14.2.1)])],[⟨[(0,.ref 9000 0 0)],[]⟩]⟩) ?_ ?_
        · exact leX []
        · clear hx17;intro s14 y15 g16 hy15;(conv=>whnf);refine seq_in tOk ?_;(conv=>whnf);obtain ⟨x18,hx18,g16⟩:=bd_some g16;refine cE [(9000,9000)] 0 (spec_l41Rd_pick_c hx18) ?_;(conv=>whnf);refine andI g16 (fun _ g16=>?_) (fun _ g16=>?_)
          · (conv=>whnf);refine seq_in tOk ?_;(conv=>whnf);refine bldS (enc:=HelloEntry.enc) ([(⟨IntKind.i64.wrap (61440+s14.2.2),16,1,0⟩:HelloEntry)]:List HelloEntry) ?_;(conv=>whnf);refine gdI g16 (fun g16=>?_);refine appS (enc:=HelloEntry.enc) (xs:=s14.1) (ys:=([(⟨IntKind.i64.wrap (61440+s14.2.2),16,1,0⟩:HelloEntry)]:List HelloEntry)) ?_;(conv=>whnf);obtain rfl:=Option.some.inj g16;exact ⟨_,rfl,leX []⟩
          · (conv=>whnf);obtain rfl:=Option.some.inj g16;obtain rfl:=hy15 _ rfl;obtain rfl:=Option.some.inj hx2;obtain rfl:=Option.some.inj h;exact lfE [.s [(5001,6001),(6001,5001)]]
      · (conv=>whnf);obtain rfl:=Option.some.inj hx2;exact ⟨_,rfl,leX []⟩
    · obtain ⟨x6,hx6,hx2⟩:=bd_some hx2;refine callG_t [(9000,9000)] 0 (spec_l41Rd_pick_c hx6) (by (conv=>whnf); exact fun q=>absurd (q.symm.trans hb5) (by decide)) ?_;(conv=>whnf);refine andI hx2 (fun _ hx2=>?_) (fun _ hx2=>?_)
      · (conv=>whnf);refine seq_in tOk ?_;(conv=>whnf);obtain ⟨x10,hx10,hx2⟩:=bd_some hx2;refine loop_m tOk hx10 (fun s7=>⟨0,56,[(0,.ref 9000 0 0),(5,.osl 6001 0 s7.1.length),(6,.d (.int .i64 s7.2.2))],[],[(6001,.arr 36 4 s7.1.length (rows HelloEntry.enc s7.1)),(9000,.box 113 [.d (slD encByte a0.b),.d (.int .i64 s7.2.1)])],[⟨[(0,.ref 9000 0 0)],[]⟩]⟩) ?_ ?_
        · exact leX []
        · clear hx10;intro s7 y8 g9 hy8;(conv=>whnf);refine seq_in tOk ?_;(conv=>whnf);obtain ⟨x11,hx11,g9⟩:=bd_some g9;refine cE [(9000,9000)] 0 (spec_l41Rd_pick_c hx11) ?_;(conv=>whnf);refine andI g9 (fun _ g9=>?_) (fun _ g9=>?_)
          · (conv=>whnf);refine seq_in tOk ?_;(conv=>whnf);refine bldS (enc:=HelloEntry.enc) ([(⟨IntKind.i64.wrap (61440+s7.2.2),16,1,0⟩:HelloEntry)]:List HelloEntry) ?_;(conv=>whnf);refine gdI g9 (fun g9=>?_);refine appS (enc:=HelloEntry.enc) (xs:=s7.1) (ys:=([(⟨IntKind.i64.wrap (61440+s7.2.2),16,1,0⟩:HelloEntry)]:List HelloEntry)) ?_;(conv=>whnf);obtain rfl:=Option.some.inj g9;exact ⟨_,rfl,leX []⟩
          · (conv=>whnf);obtain rfl:=Option.some.inj g9;obtain rfl:=hy8 _ rfl;obtain rfl:=Option.some.inj hx2;obtain rfl:=Option.some.inj h;exact lfE [.s [(5001,6001),(6001,5001)]]
      · (conv=>whnf);obtain rfl:=Option.some.inj hx2;exact ⟨_,rfl,leX []⟩
  · intro d4 hdd4;subst hdd4;(conv=>whnf);obtain ⟨x21,hx21,h⟩:=bd_some h;refine cE [(9000,9000)] 0 (spec_l41Rd_pick_c hx21) ?_;(conv=>whnf);refine seq_in tOk ?_;(conv=>whnf);obtain ⟨x22,hx22,h⟩:=bd_some h;refine cE [(9000,9000)] 0 (spec_l41Rd_pick_c hx22) ?_;(conv=>whnf);refine andI h (fun _ h=>?_) (fun _ h=>?_)
    · (conv=>whnf);refine gdI h (fun h=>?_);(conv=>whnf);refine bldS (enc:=HelloEntry.enc) ([(x1.getD x21.1.toNat default)]:List HelloEntry) ?_;(conv=>whnf);refine gdI h (fun h=>?_);refine appS (enc:=HelloEntry.enc) (xs:=x1) (ys:=([(x1.getD x21.1.toNat default)]:List HelloEntry)) ?_;(conv=>whnf);obtain rfl:=Option.some.inj h;exact lfE [.s [(5001,6001),(6001,5001)]]
    · (conv=>whnf);refine gdI h (fun h=>?_);(conv=>whnf);obtain ⟨x26,hx26,h⟩:=bd_some h;refine cE [(9000,9000)] 0 (spec_l46SpoilEntry_c hx26) ?_;(conv=>whnf);refine gdI h (fun h=>?_);(conv=>whnf);refine ⟨rows HelloEntry.enc (x1.set x21.1.toNat x26.1),store_rows' lenA rfl,?_⟩;(conv=>whnf);obtain rfl:=Option.some.inj h;exact lfE [.s [(5001,6001),(6001,5001)]]
noncomputable def spec_l46SpoilEnd_m (a0:l41Rd) (a1:HelloEnd):Option (HelloEnd × l41Rd) :=
 bd (spec_l42Copy_m a1) fun x1 =>
 bd (α:=List HelloKey × List HelloEntry × List HelloEntry × List HelloRoute × Int × Int × Int × Int × Int × Int × Int × Int × Int × Bool × Int × Int × Int × Int × Int × Bool × Int × Int) (bd (spec_l41Rd_pick_m a0 18) fun x5 =>
(if (x5.1 == 16)=true then
 some (x1.Keys,x1.Want,x1.Told,x1.Heard,x1.Name,x1.Peer,x1.Num,x1.Under.Kind,x1.Under.Entry.Addr,x1.Under.Entry.Len,x1.Under.Entry.Cost,x1.Under.Entry.Label,x1.Got,(!x1.Full),x1.Keep,x1.Boot,x1.Turn,x1.PeerBoot,x1.PeerTurn,x1.Up,x1.Left,x5.2.p)
else
(if (x5.1 == 17)=true then
 bd (lp (σ:=List HelloEntry × Int) (β:=((List HelloEntry) × Nat)) (fun s6 =>
(if (decide (((s6.1.length:Nat):Int)<8))=true then
 bd (spec_l43Put_m s6.1 (⟨IntKind.i64.wrap (16384+s6.2),16,1,0⟩:HelloEntry)) fun x10 =>
 some (.inl (x10,IntKind.i64.wrap (s6.2+1)))
else
 some (.inr (s6.1,s6.1.length)))) (x1.Told,0)) fun x9 =>
 bd (spec_l41Rd_pick_m (⟨a0.b,x5.2.p⟩:l41Rd) 8) fun x12 =>
 gd ((1000:Int) ≠ 0) <|
 some (x1.Keys,x1.Want,x9.1,x1.Heard,x1.Name,x1.Peer,IntKind.i64.wrap (((x1.Turn:Int).tmod 1000)+1),1,IntKind.i64.wrap (16384+(IntKind.i64.wrap (2*x12.1))),16,2,0,x1.Got,x1.Full,x1.Keep,x1.Boot,IntKind.i64.wrap (((x1.Turn:Int).tmod 1000)+1),x1.PeerBoot,x1.PeerTurn,x1.Up,x1.Left,x12.2.p)
else
(if (x5.1 == 0)=true then
 bd (spec_l41Rd_pick_m (⟨a0.b,x5.2.p⟩:l41Rd) 3) fun x14 =>
 gd ((0:Int)≤x14.1∧x14.1<((([-1,65536,x1.Peer]:List Int).length:Nat):Int)) <|
 some (x1.Keys,x1.Want,x1.Told,x1.Heard,(([-1,65536,x1.Peer]:List Int).getD x14.1.toNat default),x1.Peer,x1.Num,x1.Under.Kind,x1.Under.Entry.Addr,x1.Under.Entry.Len,x1.Under.Entry.Cost,x1.Under.Entry.Label,x1.Got,x1.Full,x1.Keep,x1.Boot,x1.Turn,x1.PeerBoot,x1.PeerTurn,x1.Up,x1.Left,x14.2.p)
else
(if (x5.1 == 1)=true then
 bd (spec_l41Rd_pick_m (⟨a0.b,x5.2.p⟩:l41Rd) 3) fun x16 =>
 gd ((0:Int)≤x16.1∧x16.1<((([-1,65536,65535]:List Int).length:Nat):Int)) <|
 some (x1.Keys,x1.Want,x1.Told,x1.Heard,x1.Name,(([-1,65536,65535]:List Int).getD x16.1.toNat default),x1.Num,x1.Under.Kind,x1.Under.Entry.Addr,x1.Under.Entry.Len,x1.Under.Entry.Cost,x1.Under.Entry.Label,x1.Got,x1.Full,x1.Keep,x1.Boot,x1.Turn,x1.PeerBoot,x1.PeerTurn,x1.Up,x1.Left,x16.2.p)
else
(if (x5.1 == 2)=true then
 bd (spec_l46SpoilKeys_m (⟨a0.b,x5.2.p⟩:l41Rd) x1.Keys) fun x18 =>
 some (x18.1,x1.Want,x1.Told,x1.Heard,x1.Name,x1.Peer,x1.Num,x1.Under.Kind,x1.Under.Entry.Addr,x1.Under.Entry.Len,x1.Under.Entry.Cost,x1.Under.Entry.Label,x1.Got,x1.Full,x1.Keep,x1.Boot,x1.Turn,x1.PeerBoot,x1.PeerTurn,x1.Up,x1.Left,x18.2.p)
else
(if (x5.1 == 3)=true then
 bd (spec_l41Rd_pick_m (⟨a0.b,x5.2.p⟩:l41Rd) 4) fun x19 =>
 gd ((0:Int)≤x19.1∧x19.1<((([0,1,1000,1001]:List Int).length:Nat):Int)) <|
 some (x1.Keys,x1.Want,x1.Told,x1.Heard,x1.Name,x1.Peer,x1.Num,x1.Under.Kind,x1.Under.Entry.Addr,x1.Under.Entry.Len,x1.Under.Entry.Cost,x1.Under.Entry.Label,x1.Got,x1.Full,x1.Keep,(([0,1,1000,1001]:List Int).getD x19.1.toNat default),x1.Turn,x1.PeerBoot,x1.PeerTurn,x1.Up,x1.Left,x19.2.p)
else
(if (x5.1 == 4)=true then
 bd (spec_l46SpoilTable_m (⟨a0.b,x5.2.p⟩:l41Rd) x1.Want) fun x21 =>
 some (x1.Keys,x21.1,x1.Told,x1.Heard,x1.Name,x1.Peer,x1.Num,x1.Under.Kind,x1.Under.Entry.Addr,x1.Under.Entry.Len,x1.Under.Entry.Cost,x1.Under.Entry.Label,x1.Got,x1.Full,x1.Keep,x1.Boot,x1.Turn,x1.PeerBoot,x1.PeerTurn,x1.Up,x1.Left,x21.2.p)
else
(if (x5.1 == 5)=true then
 bd (spec_l41Rd_pick_m (⟨a0.b,x5.2.p⟩:l41Rd) 4) fun x22 =>
 gd ((0:Int)≤x22.1∧x22.1<((([-1,0,1000000,1000001]:List Int).length:Nat):Int)) <|
 some (x1.Keys,x1.Want,x1.Told,x1.Heard,x1.Name,x1.Peer,x1.Num,x1.Under.Kind,x1.Under.Entry.Addr,x1.Under.Entry.Len,x1.Under.Entry.Cost,x1.Under.Entry.Label,x1.Got,x1.Full,x1.Keep,x1.Boot,(([-1,0,1000000,1000001]:List Int).getD x22.1.toNat default),x1.PeerBoot,x1.PeerTurn,x1.Up,x1.Left,x22.2.p)
else
(if (x5.1 == 6)=true then
 bd (spec_l41Rd_pick_m (⟨a0.b,x5.2.p⟩:l41Rd) 4) fun x24 =>
 gd ((0:Int)≤x24.1∧x24.1<((([-1,0,999,1000]:List Int).length:Nat):Int)) <|
 some (x1.Keys,x1.Want,x1.Told,x1.Heard,x1.Name,x1.Peer,x1.Num,x1.Under.Kind,x1.Under.Entry.Addr,x1.Under.Entry.Len,x1.Under.Entry.Cost,x1.Under.Entry.Label,x1.Got,x1.Full,x1.Keep,x1.Boot,x1.Turn,(([-1,0,999,1000]:List Int).getD x24.1.toNat default),x1.PeerTurn,x1.Up,x1.Left,x24.2.p)
else
(if (x5.1 == 7)=true then
 bd (spec_l41Rd_pick_m (⟨a0.b,x5.2.p⟩:l41Rd) 4) fun x26 =>
 gd ((0:Int)≤x26.1∧x26.1<((([-1,0,1,1000001]:List Int).length:Nat):Int)) <|
 some (x1.Keys,x1.Want,x1.Told,x1.Heard,x1.Name,x1.Peer,x1.Num,x1.Under.Kind,x1.Under.Entry.Addr,x1.Under.Entry.Len,x1.Under.Entry.Cost,x1.Under.Entry.Label,x1.Got,x1.Full,x1.Keep,x1.Boot,x1.Turn,x1.PeerBoot,(([-1,0,1,1000001]:List Int).getD x26.1.toNat default),x1.Up,x1.Left,x26.2.p)
else
(if (x5.1 == 8)=true then
 some (x1.Keys,x1.Want,x1.Told,x1.Heard,x1.Name,x1.Peer,x1.Num,x1.Under.Kind,x1.Under.Entry.Addr,x1.Under.Entry.Len,x1.Under.Entry.Cost,x1.Under.Entry.Label,x1.Got,x1.Full,x1.Keep,x1.Boot,x1.Turn,x1.PeerBoot,x1.PeerTurn,(!x1.Up),x1.Left,x5.2.p)
else
(if (x5.1 == 9)=true then
 bd (spec_l41Rd_pick_m (⟨a0.b,x5.2.p⟩:l41Rd) 4) fun x28 =>
 gd ((0:Int)≤x28.1∧x28.1<((([-1,0,4,5]:List Int).length:Nat):Int)) <|
 some (x1.Keys,x1.Want,x1.Told,x1.Heard,x1.Name,x1.Peer,x1.Num,x1.Under.Kind,x1.Under.Entry.Addr,x1.Under.Entry.Len,x1.Under.Entry.Cost,x1.Under.Entry.Label,x1.Got,x1.Full,x1.Keep,x1.Boot,x1.Turn,x1.PeerBoot,x1.PeerTurn,x1.Up,(([-1,0,4,5]:List Int).getD x28.1.toNat default),x28.2.p)
else
(if (x5.1 == 10)=true then
 bd (spec_l41Rd_pick_m (⟨a0.b,x5.2.p⟩:l41Rd) 4) fun x30 =>
 gd ((0:Int)≤x30.1∧x30.1<((([-1,0,x1.Turn,IntKind.i64.wrap (x1.Turn+1)]:List Int).length:Nat):Int)) <|
 some (x1.Keys,x1.Want,x1.Told,x1.Heard,x1.Name,x1.Peer,(([-1,0,x1.Turn,IntKind.i64.wrap (x1.Turn+1)]:List Int).getD x30.1.toNat default),x1.Under.Kind,x1.Under.Entry.Addr,x1.Under.Entry.Len,x1.Under.Entry.Cost,x1.Under.Entry.Label,x1.Got,x1.Full,x1.Keep,x1.Boot,x1.Turn,x1.PeerBoot,x1.PeerTurn,x1.Up,x1.Left,x30.2.p)
else
(if (x5.1 == 11)=true then
 bd (spec_l41Rd_pick_m (⟨a0.b,x5.2.p⟩:l41Rd) 6) fun x32 =>
 bd (spec_l46Entry_m (⟨a0.b,x32.2.p⟩:l41Rd)) fun x33 =>
 some (x1.Keys,x1.Want,x1.Told,x1.Heard,x1.Name,x1.Peer,x1.Num,IntKind.i64.wrap (x32.1 - 1),x33.1.Addr,x33.1.Len,x33.1.Cost,x33.1.Label,x1.Got,x1.Full,x1.Keep,x1.Boot,x1.Turn,x1.PeerBoot,x1.PeerTurn,x1.Up,x1.Left,x33.2.p)
else
(if (x5.1 == 12)=true then
 bd (spec_l46SpoilTable_m (⟨a0.b,x5.2.p⟩:l41Rd) x1.Told) fun x34 =>
 some (x1.Keys,x1.Want,x34.1,x1.Heard,x1.Name,x1.Peer,x1.Num,x1.Under.Kind,x1.Under.Entry.Addr,x1.Under.Entry.Len,x1.Under.Entry.Cost,x1.Under.Entry.Label,x1.Got,x1.Full,x1.Keep,x1.Boot,x1.Turn,x1.PeerBoot,x1.PeerTurn,x1.Up,x1.Left,x34.2.p)
else
(if (x5.1 == 13)=true then
 bd (spec_l41Rd_pick_m (⟨a0.b,x5.2.p⟩:l41Rd) 3) fun x35 =>
 gd ((0:Int)≤x35.1∧x35.1<((([-1,1000000,1000001]:List Int).length:Nat):Int)) <|
 some (x1.Keys,x1.Want,x1.Told,x1.Heard,x1.Name,x1.Peer,x1.Num,x1.Under.Kind,x1.Under.Entry.Addr,x1.Under.Entry.Len,x1.Under.Entry.Cost,x1.Under.Entry.Label,(([-1,1000000,1000001]:List Int).getD x35.1.toNat default),x1.Full,x1.Keep,x1.Boot,x1.Turn,x1.PeerBoot,x1.PeerTurn,x1.Up,x1.Left,x35.2.p)
else
(if (x5.1 == 14)=true then
 bd (spec_l41Rd_pick_m (⟨a0.b,x5.2.p⟩:l41Rd) 5) fun x37 =>
 gd ((0:Int)≤x37.1∧x37.1<((([-1,0,1,6,7]:List Int).length:Nat):Int)) <|
 some (x1.Keys,x1.Want,x1.Told,x1.Heard,x1.Name,x1.Peer,x1.Num,x1.Under.Kind,x1.Under.Entry.Addr,x1.Under.Entry.Len,x1.Under.Entry.Cost,x1.Under.Entry.Label,x1.Got,x1.Full,(([-1,0,1,6,7]:List Int).getD x37.1.toNat default),x1.Boot,x1.Turn,x1.PeerBoot,x1.PeerTurn,x1.Up,x1.Left,x37.2.p)
else
(if (decide (((x1.Heard.length:Nat):Int) > 0))=true then
 bd (spec_l41Rd_pick_m (⟨a0.b,x5.2.p⟩:l41Rd) ((x1.Heard.length:Nat):Int)) fun x39 =>
 gd ((0:Int)≤x39.1∧x39.1<((x1.Heard.length:Nat):Int)) <|
 gd ((0:Int)≤x39.1∧x39.1<((x1.Heard.length:Nat):Int)) <|
 bd (some (x1.Heard.set x39.1.toNat (⟨((x1.Heard.getD x39.1.toNat default).Entry),(!((x1.Heard.getD x39.1.toNat default).Stale))⟩:HelloRoute))) fun x42 =>
 bd (spec_l41Rd_pick_m (⟨a0.b,x39.2.p⟩:l41Rd) 2) fun x43 =>
(if (x43.1 == 0)=true then
 gd ((0:Int)≤x39.1∧x39.1<((x1.Heard.length:Nat):Int)) <|
 bd (spec_l46SpoilEntry_m (⟨a0.b,x43.2.p⟩:l41Rd) ((x42.getD x39.1.toNat default).Entry)) fun x45 =>
 gd ((0:Int)≤x39.1∧x39.1<((x1.Heard.length:Nat):Int)) <|
 some (x1.Keys,x1.Want,x1.Told,x42.set x39.1.toNat (⟨x45.1,(x42.getD x39.1.toNat default).Stale⟩:HelloRoute),x1.Name,x1.Peer,x1.Num,x1.Under.Kind,x1.Under.Entry.Addr,x1.Under.Entry.Len,x1.Under.Entry.Cost,x1.Under.Entry.Label,x1.Got,x1.Full,x1.Keep,x1.Boot,x1.Turn,x1.PeerBoot,x1.PeerTurn,x1.Up,x1.Left,x45.2.p)
else
 some (x1.Keys,x1.Want,x1.Told,x42,x1.Name,x1.Peer,x1.Num,x1.Under.Kind,x1.Under.Entry.Addr,x1.Under.Entry.Len,x1.Under.Entry.Cost,x1.Under.Entry.Label,x1.Got,x1.Full,x1.Keep,x1.Boot,x1.Turn,x1.PeerBoot,x1.PeerTurn,x1.Up,x1.Left,x43.2.p))
else
 some (x1.Keys,x1.Want,x1.Told,x1.Heard,x1.Name,x1.Peer,x1.Num,x1.Under.Kind,x1.Under.Entry.Addr,x1.Under.Entry.Len,x1.Under.Entry.Cost,x1.Under.Entry.Label,x1.Got,x1.Full,x1.Keep,x1.Boot,x1.Turn,x1.PeerBoot,x1.PeerTurn,x1.Up,x1.Left,x5.2.p)))))))))))))))))))) fun x2 =>
 some ((⟨x2.2.2.2.2.1,x2.2.2.2.2.2.1,x2.1,x2.2.2.2.2.2.2.2.2.2.2.2.2.2.2.2.1,x2.2.1,x2.2.2.2.2.2.2.2.2.2.2.2.2.2.2.2.2.1,x2.2.2.2.2.2.2.2.2.2.2.2.2.2.2.2.2.2.1,x2.2.2.2.2.2.2.2.2.2.2.2.2.2.2.2.2.2.2.1,x2.2.2.2.2.2.2.2.2.2.2.2.2.2.2.2.2.2.2.2.1,x2.2.2.2.2.2.2.2.2.2.2.2.2.2.2.2.2.2.2.2.2.1,x2.2.2.2.2.2.2.1,(⟨x2.2.2.2.2.2.2.2.1,(⟨x2.2.2.2.2.2.2.2.2.1,x2.2.2.2.2.2.2.2.2.2.1,x2.2.2.2.2.2.2.2.2.2.2.1,x2.2.2.2.2.2.2.2.2.2.2.2.1⟩:HelloEntry)⟩:HelloChange),x2.2.2.1,x1.All,x2.2.2.2.2.2.2.2.2.2.2.2.2.1,x2.2.2.2.2.2.2.2.2.2.2.2.2.2.1,x2.2.2.2.1,x2.2.2.2.2.2.2.2.2.2.2.2.2.2.2.1⟩:HelloEnd),(⟨a0.b,x2.2.2.2.2.2.2.2.2.2.2.2.2.2.2.2.2.2.2.2.2.2⟩:l41Rd))
theorem spec_l46SpoilEnd_c {a0:l41Rd} {a1:HelloEnd} {r:HelloEnd × l41Rd} (h:spec_l46SpoilEnd_m a0 a1=some r):EffC Tryz.prog 99 [.ref 9000 0 0,.agg [.d (.int .i64 a1.Name),.d (.int .i64 a1.Peer),.d (slD HelloKey.enc a1.Keys),.d (.int .i64 a1.Boot),.d (slD HelloEntry.enc a1.Want),.d (.int .i64 a1.Turn),.d (.int .i64 a1.PeerBoot),.d (.int .i64 a1.PeerTurn),.d (.bool a1.Up),.d (.int .i64 a1.Left),.d (.int .i64 a1.Num),.d (.int .i64 a1.Under.Kind),.d (.int .i64 a1.Under.Entry.Addr),.d (.int .i64 a1.Under.Entry.Len),.d (.int .i64 a1.Under.Entry.Cost),.d (.int .i64 a1.Under.Entry.Label),.d (slD HelloEntry.enc a1.Told),.d (.bool a1.All),.d (.int .i64 a1.Got),.d (.bool a1.Full),.d (slD HelloRoute.enc a1.Heard),.d (.int .i64 a1.Keep)]] [(9000,.box 113 [.d (slD encByte a0.b),.d (.int .i64 a0.p)])] (.agg [.d (.int .i64 r.1.Name),.d (.int .i64 r.1.Peer),.osl 5001 0 r.1.Keys.length,.d (.int .i64 r.1.Boot),.osl 5002 0 r.1.Want.length,.d (.int .i64 r.1.Turn),.d (.int .i64 r.1.PeerBoot),.d (.int .i64 r.1.PeerTurn),.d (.bool r.1.Up),.d (.int .i64 r.1.Left),.d (.int .i64 r.1.Num),.d (.int .i64 r.1.Under.Kind),.d (.int .i64 r.1.Under.Entry.Addr),.d (.int .i64 r.1.Under.Entry.Len),.d (.int .i64 r.1.Under.Entry.Cost),.d (.int .i64 r.1.Under.Entry.Label),.osl 5003 0 r.1.Told.length,.d (.bool r.1.All),.d (.int .i64 r.1.Got),.d (.bool r.1.Full),.osl 5004 0 r.1.Heard.length,.d (.int .i64 r.1.Keep)]) [(9000,.box 113 [.d (slD encByte a0.b),.d (.int .i64 r.2.p)]),(5001,.arr 90 2 r.1.Keys.length (rows HelloKey.enc r.1.Keys)),(5002,.arr 36 4 r.1.Want.length (rows HelloEntry.enc r.1.Want)),(5003,.arr 36 4 r.1.Told.length (rows HelloEntry.enc r.1.Told)),(5004,.arr 94 5 r.1.Heard.length (rows HelloRoute.enc r.1.Heard))]:=by
  refine effC_x tOk (fn:=Tryz.f99) (c:=codeOf Tryz.f99) rfl rfl ?_;unfold spec_l46SpoilEnd_m at h;(conv=>whnf);obtain ⟨x1,hx1,h⟩:=bd_some h;refine cC 1000 (spec_l42Copy_c hx1) ?_;clear hx1;(conv=>whnf);obtain ⟨x2,hx2,h⟩:=bd_some h;refine seq_join tOk (fun s3=>⟨0,208,[(3,.ref 3 0 0),(4,.ref 4 0 0)],[],[(6004,.arr 94 5 s3.2.2.2.1.length (rows HelloRoute.enc s3.2.2.2.1)),(6003,.arr 36 4 s3.2.2.1.length (rows HelloEntry.enc s3.2.2.1)),(6002,.arr 36 4 s3.2.1.length (rows HelloEntry.enc s3.2.1)),(6001,.arr 90 2 s3.1.length (rows HelloKey.enc s3.1)),(4,.box 41 [.d (.int .i64 0),.d (.int .i64 0),.d (.nil),.d (.int .i64 0),.d (.nil),.d (.int .i64 0),.d (.int .i64 0),.d (.int .i64 0),.d (.bool false),.d (.int .i64 0),.d (.int .i64 0),.d (.int .i64 0),.d (.int .i64 0),.d (.int .i64 0),.d (.int .i64 0),.d (.int .i64 0),.d (.nil),.d (.bool false),.d (.int .i64 0),.d (.bool false),.d (.nil),.d (.int .i64 0)]),(3,.box 41 [.d (.int .i64 s3.2.2.2.2.1),.d (.int .i64 s3.2.2.2.2.2.1),.osl 6001 0 s3.1.length,.d (.int .i64 s3.2.2.2.2.2.2.2.2.2.2.2.2.2.2.2.1),.osl 6002 0 s3.2.1.length,.d (.int .i64 s3.2.2.2.2.2.2.2.2.2.2.2.2.2.2.2.2.1),.d (.int .i64 s3.2.2.2.2.2.2.2.2.2.2.2.2.2.2.2.2.2.1),.d (.int .i64 s3.2.2.2.2.2.2.2.2.2.2.2.2.2.2.2.2.2.2.1),.d (.bool s3.2.2.2.2.2.2.2.2.2.2.2.2.2.2.2.2.2.2.2.1),.d (.int .i64 s3.2.2.2.2.2.2.2.2.2.2.2.2.2.2.2.2.2.2.2.2.1),.d (.int .i64 s3.2.2.2.2.2.2.1),.d (.int .i64 s3.2.2.2.2.2.2.2.1),.d (.int .i64 s3.2.2.2.2.2.2.2.2.1),.d (.int .i64 s3.2.2.2.2.2.2.2.2.2.1),.d (.int .i64 s3.2.2.2.2.2.2.2.2.2.2.1),.d (.int .i64 s3.2.2.2.2.2.2.2.2.2.2.2.1),.osl 6003 0 s3.2.2.1.length,.d (.bool x1.All),.d (.int .i64 s3.2.2.2.2.2.2.2.2.2.2.2.2.1),.d (.bool s3.2.2.2.2.2.2.2.2.2.2.2.2.2.1),.osl 6004 0 s3.2.2.2.1.length,.d (.int .i64 s3.2.2.2.2.2.2.2.2.2.2.2.2.2.2.1)]),(9000,.box 113 [.d (slD encByte a0.b),.d (.int .i64 s3.2.2.2.2.2.2.2.2.2.2.2.2.2.2.2.2.2.2.2.2.2)])],[⟨[(0,.ref 9000 0 0)],[]⟩]⟩) (fun s3=>x2=s3) ?_ ?_
  · (conv=>whnf);obtain ⟨x5,hx5,hx2⟩:=bd_some hx2;refine cE [(9000,9000)] 0 (spec_l41Rd_pick_c hx5) ?_;(conv=>whnf);refine andI hx2 (fun _ hx2=>?_) (fun _ hx2=>?_)
    · (conv=>whnf);obtain rfl:=Option.some.inj hx2;exact ⟨_,rfl,leX []⟩
    · (conv=>whnf);refine andI hx2 (fun _ hx2=>?_) (fun _ hx2=>?_)
      · (conv=>whnf);refine seq_in tOk ?_;(conv=>whnf);obtain ⟨x9,hx9,hx2⟩:=bd_some hx2;refine loop_m tOk hx9 (fun s6=>⟨0,208,[(0,.ref 9000 0 0),(3,.ref 3 0 0),(4,.ref 4 0 0),(5,.d (.int .i64 s6.2))],[],[(6004,.arr 94 5 x1.Heard.length (rows HelloRoute.enc x1.Heard)),(6003,.arr 36 4 s6.1.length (rows HelloEntry.enc s6.1)),(6002,.arr 36 4 x1.Want.length (rows HelloEntry.enc x1.Want)),(6001,.arr 90 2 x1.Keys.length (rows HelloKey.enc x1.Keys)),(4,.box 41 [.d (.int .i64 0),.d (.int .i64 0),.d (.nil),.d (.int .i64 0),.d (.nil),.d (.int .i64 0),.d (.int .i64 0),.d (.int .i64 0),.d (.bool false),.d (.int .i64 0),.d (.int .i64 0),.d (.int .i64 0),.d (.int .i64 0),.d (.int .i64 0),.d (.int .i64 0),.d (.int .i64 0),.d (.nil),.d (.bool false),.d (.int .i64 0),.d (.bool false),.d (.nil),.d (.int .i64 0)]),(3,.box 41 [.d (.int .i64 x1.Name),.d (.int .i64 x1.Peer),.osl 6001 0 x1.Keys.length,.d (.int .i64 x1.Boot),.osl 6002 0 x1.Want.length,.d (.int .i64 x1.Turn),.d (.int .i64 x1.PeerBoot),.d (.int .i64 x1.PeerTurn),.d (.bool x1.Up),.d (.int .i64 x1.Left),.d (.int .i64 x1.Num),.d (.int .i64 x1.Under.Kind),.d (.int .i64 x1.Under.Entry.Addr),.d (.int .i64 x1.Under.Entry.Len),.d (.int .i64 x1.Under.Entry.Cost),.d (.int .i64 x1.Under.Entry.Label),.osl 6003 0 s6.1.length,.d (.bool x1.All),.d (.int .i64 x1.Got),.d (.bool x1.Full),.osl 6004 0 x1.Heard.length,.d (.int .i64 x1.Keep)]),(9000,.box 113 [.d (slD encByte a0.b),.d (.int .i64 x5.2.p)])],[⟨[(0,.ref 9000 0 0)],[]⟩]⟩) ?_ ?_
        · exact leX []
        · clear hx9;intro s6 y7 g8 hy7;(conv=>whnf);refine seq_in tOk ?_;(conv=>whnf);refine andI g8 (fun _ g8=>?_) (fun _ g8=>?_)
          · (conv=>whnf);refine seq_in tOk ?_;(conv=>whnf);obtain ⟨x10,hx10,g8⟩:=bd_some g8;refine cC 2000 (spec_l43Put_c hx10) ?_;clear hx10;(conv=>whnf);obtain rfl:=Option.some.inj g8;exact ⟨_,rfl,leX [.s [(6003,7001),(7001,6003)]]⟩
          · (conv=>whnf);obtain rfl:=Option.some.inj g8;obtain rfl:=hy7 _ rfl;obtain ⟨x12,hx12,hx2⟩:=bd_some hx2;refine cE [(9000,9000)] 0 (spec_l41Rd_pick_c hx12) ?_;(conv=>whnf);refine gdI hx2 (fun hx2=>?_);(conv=>whnf);obtain rfl:=Option.some.inj hx2;exact ⟨_,rfl,leX []⟩
      · (conv=>whnf);refine andI hx2 (fun _ hx2=>?_) (fun _ hx2=>?_)
        · (conv=>whnf);obtain ⟨x14,hx14,hx2⟩:=bd_some hx2;obtain ⟨g15,hx2⟩:=gd_some hx2;refine draw_t tOk [.e 4 [(9000,.box 113 [.d (slD encByte a0.b),.d (.int .i64 x5.2.p)])] (.d (.int .i64 x14.1)) [] [(9000,.box 113 [.d (slD encByte a0.b),.d (.int .i64 x14.2.p)])]] 8 [] [0,1,3,0,8,31,63,127] [255] [9000] ?_;(conv=>whnf);refine bldS (enc:=encInt) ([-1,65536,x1.Peer]:List Int) ?_;(conv=>whnf);refine And.intro (eD [(9000,9000)] 0 (spec_l41Rd_pick_c hx14)) ?_;(conv=>whnf);refine And.intro g15 ?_;clear g15;(conv=>whnf);refine And.intro (by kernel_rfl) ?_;(conv=>whnf);obtain rfl:=Option.some.inj hx2;exact ⟨_,rfl,leX []⟩
        · (conv=>whnf);refine andI hx2 (fun _ hx2=>?_) (fun _ hx2=>?_)
          · (conv=>whnf);refine bldS (enc:=encInt) ([-1,65536,65535]:List Int) ?_;(conv=>whnf);obtain ⟨x16,hx16,hx2⟩:=bd_some hx2;refine cE [(9000,9000)] 0 (spec_l41Rd_pick_c hx16) ?_;(conv=>whnf);refine gdI hx2 (fun hx2=>?_);(conv=>whnf);obtain rfl:=Option.some.inj hx2;exact ⟨_,rfl,leX []⟩
          · (conv=>whnf);refine andI hx2 (fun _ hx2=>?_) (fun _ hx2=>?_)
            · (conv=>whnf);obtain ⟨x18,hx18,hx2⟩:=bd_some hx2;refine callFz [6001] ?_;(conv=>whnf);refine cE [(9000,9000)] 1000 (spec_l46SpoilKeys_c hx18) ?_;(conv=>whnf);obtain rfl:=Option.some.inj hx2;exact ⟨_,rfl,leX []⟩
            · (conv=>whnf);refine andI hx2 (fun _ hx2=>?_) (fun _ hx2=>?_)
              · (conv=>whnf);refine bldS (enc:=encInt) ([0,1,1000,1001]:List Int) ?_;(conv=>whnf);obtain ⟨x19,hx19,hx2⟩:=bd_some hx2;refine cE [(9000,9000)] 0 (spec_l41Rd_pick_c hx19) ?_;(conv=>whnf);refine gdI hx2 (fun hx2=>?_);(conv=>whnf);obtain rfl:=Option.some.inj hx2;exact ⟨_,rfl,leX []⟩
              · (conv=>whnf);refine andI hx2 (fun _ hx2=>?_) (fun _ hx2=>?_)
                · (conv=>whnf);obtain ⟨x21,hx21,hx2⟩:=bd_some hx2;refine callFz [6002] ?_;(conv=>whnf);refine cE [(9000,9000)] 2000 (spec_l46SpoilTable_c hx21) ?_;(conv=>whnf);obtain rfl:=Option.some.inj hx2;exact ⟨_,rfl,leX [.s [(6002,7001),(7001,6002)]]⟩
                · (conv=>whnf);refine andI hx2 (fun _ hx2=>?_) (fun _ hx2=>?_)
                  · (conv=>whnf);refine bldS (enc:=encInt) ([-1,0,1000000,1000001]:List Int) ?_;(conv=>whnf);obtain ⟨x22,hx22,hx2⟩:=bd_some hx2;refine cE [(9000,9000)] 0 (spec_l41Rd_pick_c hx22) ?_;(conv=>whnf);refine gdI hx2 (fun hx2=>?_);(conv=>whnf);obtain rfl:=Option.some.inj hx2;exact ⟨_,rfl,leX []⟩
                  · (conv=>whnf);refine andI hx2 (fun _ hx2=>?_) (fun _ hx2=>?_)
                    · (conv=>whnf);refine bldS (enc:=encInt) ([-1,0,999,1000]:List Int) ?_;(conv=>whnf);obtain ⟨x24,hx24,hx2⟩:=bd_some hx2;refine cE [(9000,9000)] 0 (spec_l41Rd_pick_c hx24) ?_;(conv=>whnf);refine gdI hx2 (fun hx2=>?_);(conv=>whnf);obtain rfl:=Option.some.inj hx2;exact ⟨_,rfl,leX []⟩
                    · (conv=>whnf);refine andI hx2 (fun _ hx2=>?_) (fun _ hx2=>?_)
                      · (conv=>whnf);refine bldS (enc:=encInt) ([-1,0,1,1000001]:List Int) ?_;(conv=>whnf);obtain ⟨x26,hx26,hx2⟩:=bd_some hx2;refine cE [(9000,9000)] 0 (spec_l41Rd_pick_c hx26) ?_;(conv=>whnf);refine gdI hx2 (fun hx2=>?_);(conv=>whnf);obtain rfl:=Option.some.inj hx2;exact ⟨_,rfl,leX []⟩
                      · (conv=>whnf);refine andI hx2 (fun _ hx2=>?_) (fun _ hx2=>?_)
                        · (conv=>whnf);obtain rfl:=Option.some.inj hx2;exact ⟨_,rfl,leX []⟩
                        · (conv=>whnf);refine andI hx2 (fun _ hx2=>?_) (fun _ hx2=>?_)
                          · (conv=>whnf);refine bldS (enc:=encInt) ([-1,0,4,5]:List Int) ?_;(conv=>whnf);obtain ⟨x28,hx28,hx2⟩:=bd_some hx2;refine cE [(9000,9000)] 0 (spec_l41Rd_pick_c hx28) ?_;(conv=>whnf);refine gdI hx2 (fun hx2=>?_);(conv=>whnf);obtain rfl:=Option.some.inj hx2;exact ⟨_,rfl,leX []⟩
                          · (conv=>whnf);refine andI hx2 (fun _ hx2=>?_) (fun _ hx2=>?_)
                            · (conv=>whnf);obtain ⟨x30,hx30,hx2⟩:=bd_some hx2;obtain ⟨g31,hx2⟩:=gd_some hx2;refine draw_t tOk [.e 7 [(9000,.box 113 [.d (slD encByte a0.b),.d (.int .i64 x5.2.p)])] (.d (.int .i64 x30.1)) [] [(9000,.box 113 [.d (slD encByte a0.b),.d (.int .i64 x30.2.p)])]] 11 [] [0,1,0,4,12,31,0,64,255,511,1023] [2047] [9000] ?_;(conv=>whnf);refine bldS (enc:=encInt) ([-1,0,x1.Turn,IntKind.i64.wrap (x1.Turn+1)]:List Int) ?_;(conv=>whnf);refine And.intro (eD [(9000,9000)] 0 (spec_l41Rd_pick_c hx30)) ?_;(conv=>whnf);refine And.intro g31 ?_;clear g31;(conv=>whnf);refine And.intro (by kernel_rfl) ?_;(conv=>whnf);obtain rfl:=Option.some.inj hx2;exact ⟨_,rfl,leX []⟩
                            · (conv=>whnf);refine andI hx2 (fun _ hx2=>?_) (fun _ hx2=>?_)
                              · (conv=>whnf);obtain ⟨x32,hx32,hx2⟩:=bd_some hx2;refine cE [(9000,9000)] 0 (spec_l41Rd_pick_c hx32) ?_;(conv=>whnf);obtain ⟨x33,hx33,hx2⟩:=bd_some hx2;refine cE [(9000,9000)] 0 (spec_l46Entry_c hx33) ?_;(conv=>whnf);obtain rfl:=Option.some.inj hx2;exact ⟨_,rfl,leX []⟩
                              · (conv=>whnf);refine andI hx2 (fun _ hx2=>?_) (fun _ hx2=>?_)
                                · (conv=>whnf);obtain ⟨x34,hx34,hx2⟩:=bd_some hx2;refine callFz [6003] ?_;(conv=>whnf);refine cE [(9000,9000)] 2000 (spec_l46SpoilTable_c hx34) ?_;(conv=>whnf);obtain rfl:=Option.some.inj hx2;exact ⟨_,rfl,leX [.s [(6003,7001),(7001,6003)]]⟩
                                · (conv=>whnf);refine andI hx2 (fun _ hx2=>?_) (fun _ hx2=>?_)
                                  · (conv=>whnf);refine bldS (enc:=encInt) ([-1,1000000,1000001]:List Int) ?_;(conv=>whnf);obtain ⟨x35,hx35,hx2⟩:=bd_some hx2;refine cE [(9000,9000)] 0 (spec_l41Rd_pick_c hx35) ?_;(conv=>whnf);refine gdI hx2 (fun hx2=>?_);(conv=>whnf);obtain rfl:=Option.some.inj hx2;exact ⟨_,rfl,leX []⟩
                                  · (conv=>whnf);refine andI hx2 (fun _ hx2=>?_) (fun _ hx2=>?_)
                                    · (conv=>whnf);refine bldS (enc:=encInt) ([-1,0,1,6,7]:List Int) ?_;(conv=>whnf);obtain ⟨x37,hx37,hx2⟩:=bd_some hx2;refine cE [(9000,9000)] 0 (spec_l41Rd_pick_c hx37) ?_;(conv=>whnf);refine gdI hx2 (fun hx2=>?_);(conv=>whnf);obtain rfl:=Option.some.inj hx2;exact ⟨_,rfl,leX []⟩
                                    · (conv=>whnf);refine andI hx2 (fun _ hx2=>?_) (fun _ hx2=>?_)
                                      · (conv=>whnf);obtain ⟨x39,hx39,hx2⟩:=bd_some hx2;refine cE [(9000,9000)] 0 (spec_l41Rd_pick_c hx39) ?_;(conv=>whnf);obtain ⟨g40,hx2⟩:=gd_some hx2;obtain ⟨g41,hx2⟩:=gd_some hx2;refine draw_u tOk [] 12 [] [0,1,0,0,8,0,56,120,248,504,1023,2047] [4095] ?_;(conv=>whnf);refine And.intro g40 ?_;clear g40;(conv=>whnf);refine And.intro g41 ?_;clear g41;(conv=>whnf);refine And.intro (by kernel_rfl) ?_;(conv=>whnf);obtain ⟨x42,hx42,hlx42,hx2⟩:=bd_set hx2;refine setS (enc:=HelloRoute.enc) hx42 ?_;(conv=>whnf);obtain ⟨x43,hx43,hx2⟩:=bd_some hx2;refine cE [(9000,9000)] 0 (spec_l41Rd_pick_c hx43) ?_;(conv=>whnf);refine andI hx2 (fun _ hx2=>?_) (fun _ hx2=>?_)
                                        · (conv=>whnf);obtain ⟨g44,hx2⟩:=gd_some hx2;obtain ⟨x45,hx45,hx2⟩:=bd_some hx2;obtain ⟨g46,hx2⟩:=gd_some hx2;refine draw_t tOk [.e 10 [(9000,.box 113 [.d (slD encByte a0.b),.d (.int .i64 x43.2.p)])] (.agg [.d (.int .i64 x45.1.Addr),.d (.int .i64 x45.1.Len),.d (.int .i64 x45.1.Cost),.d (.int .i64 x45.1.Label)]) [] [(9000,.box 113 [.d (slD encByte a0.b),.d (.int .i64 x45.2.p)])]] 13 [] [0,1,0,0,0,16,0,112,240,496,1016,2047,4095] [8191] [9000] ?_;(conv=>whnf);refine And.intro g44 ?_;clear g44;(conv=>whnf);refine And.intro (eD [(9000,9000)] 0 (spec_l46SpoilEntry_c hx45)) ?_;(conv=>whnf);refine And.intro g46 ?_;clear g46;(conv=>whnf);refine And.intro (by kernel_rfl) ?_;(conv=>whnf);refine ⟨rows HelloRoute.enc (x42.set x39.1.toNat (⟨x45.1,(x42.getD x39.1.toNat default).Stale⟩:HelloRoute)),store_rows' lenA rfl,?_⟩;(conv=>whnf);obtain rfl:=Option.some.inj hx2;exact ⟨_,rfl,leX []⟩
                                        · (conv=>whnf);obtain rfl:=Option.some.inj hx2;exact ⟨_,rfl,leX []⟩
                                      · (conv=>whnf);obtain rfl:=Option.some.inj hx2;exact ⟨_,rfl,leX []⟩
  · rintro _ rfl;(conv=>whnf);obtain rfl:=Option.some.inj h;exact lfE [.s [(5001,6001),(5002,6002),(5003,6003),(5004,6004),(6001,5001),(6002,5002),(6003,5003),(6004,5004)]]
noncomputable def spec_l46AnyEnd_m (a0:l41Rd):Option (HelloEnd × l41Rd) :=
 bd (spec_l46End_m a0) fun x1 =>
 bd (spec_l41Rd_pick_m (⟨a0.b,x1.2.p⟩:l41Rd) 24) fun x2 =>
(if (x2.1 == 0)=true then
 bd (spec_l46SpoilEnd_m (⟨a0.b,x2.2.p⟩:l41Rd) x1.1) fun x3 =>
 some (x3.1,(⟨a0.b,x3.2.p⟩:l41Rd))
else
 some (x1.1,(⟨a0.b,x2.2.p⟩:l41Rd)))
theorem spec_l46AnyEnd_c {a0:l41Rd} {r:HelloEnd × l41Rd} (h:spec_l46AnyEnd_m a0=some r):EffC Tryz.prog 49 [.ref 9000 0 0] [(9000,.box 113 [.d (slD encByte a0.b),.d (.int .i64 a0.p)])] (.agg [.d (.int .i64 r.1.Name),.d (.int .i64 r.1.Peer),.d (slD HelloKey.enc r.1.Keys),.d (.int .i64 r.1.Boot),.d (slD HelloEntry.enc r.1.Want),.d (.int .i64 r.1.Turn),.d (.int .i64 r.1.PeerBoot),.d (.int .i64 r.1.PeerTurn),.d (.bool r.1.Up),.d (.int .i64 r.1.Left),.d (.int .i64 r.1.Num),.d (.int .i64 r.1.Under.Kind),.d (.int .i64 r.1.Under.Entry.Addr),.d (.int .i64 r.1.Under.Entry.Len),.d (.int .i64 r.1.Under.Entry.Cost),.d (.int .i64 r.1.Under.Entry.Label),.d (slD HelloEntry.enc r.1.Told),.d (.bool r.1.All),.d (.int .i64 r.1.Got),.d (.bool r.1.Full),.d (slD HelloRoute.enc r.1.Heard),.d (.int .i64 r.1.Keep)]) [(9000,.box 113 [.d (slD encByte a0.b),.d (.int .i64 r.2.p)])]:=by
  refine effC_x tOk (fn:=Tryz.f49) (c:=codeOf Tryz.f49) rfl rfl ?_;unfold spec_l46AnyEnd_m at h;(conv=>whnf);obtain ⟨x1,hx1,h⟩:=bd_some h;refine cE [(9000,9000)] 0 (spec_l46End_c hx1) ?_;(conv=>whnf);refine seq_in tOk ?_;(conv=>whnf);obtain ⟨x2,hx2,h⟩:=bd_some h;refine cE [(9000,9000)] 0 (spec_l41Rd_pick_c hx2) ?_;(conv=>whnf);refine andI h (fun _ h=>?_) (fun _ h=>?_)
  · (conv=>whnf);obtain ⟨x3,hx3,h⟩:=bd_some h;refine cE [(9000,9000)] 1000 (spec_l46SpoilEnd_c hx3) ?_;(conv=>whnf);obtain rfl:=Option.some.inj h;exact lfE [.f [6001,6002,6003,6004]]
  · (conv=>whnf);obtain rfl:=Option.some.inj h;exact lfE []
noncomputable def spec_l46SpoilWord_m (a0:l41Rd) (a1:HelloWord):Option (HelloWord × l41Rd) :=
 bd (α:=(Int × Int × Int × Int × Int × Int × Int × Int × Int × Int × Int × Int × Int × Int) ⊕ (Int × Int)) (bd (spec_l41Rd_pick_m a0 11) fun x4 =>
(if (x4.1 == 0)=true then
 bd (spec_l41Rd_pick_m (⟨a0.b,x4.2.p⟩:l41Rd) 4) fun x5 =>
 gd ((0:Int)≤x5.1∧x5.1<((([-1,65535,65536,7]:List Int).length:Nat):Int)) <|
 some (.inl ((([-1,65535,65536,7]:List Int).getD x5.1.toNat default),a1.To,a1.Change.Entry.Len,a1.Change.Entry.Cost,a1.Change.Entry.Label,a1.Key,a1.Boot,a1.Yours,a1.Turn,a1.Num,a1.Heard,a1.Change.Kind,a1.Change.Entry.Addr,x5.2.p))
else
(if (x4.1 == 1)=true then
 bd (spec_l41Rd_pick_m (⟨a0.b,x4.2.p⟩:l41Rd) 4) fun x7 =>
 gd ((0:Int)≤x7.1∧x7.1<((([-1,65535,65536,7]:List Int).length:Nat):Int)) <|
 some (.inl (a1.From,(([-1,65535,65536,7]:List Int).getD x7.1.toNat default),a1.Change.Entry.Len,a1.Change.Entry.Cost,a1.Change.Entry.Label,a1.Key,a1.Boot,a1.Yours,a1.Turn,a1.Num,a1.Heard,a1.Change.Kind,a1.Change.Entry.Addr,x7.2.p))
else
(if (x4.1 == 2)=true then
 bd (spec_l41Rd_pick_m (⟨a0.b,x4.2.p⟩:l41Rd) 4) fun x9 =>
 gd ((0:Int)≤x9.1∧x9.1<((([0,1,9,10]:List Int).length:Nat):Int)) <|
 some (.inl (a1.From,a1.To,a1.Change.Entry.Len,a1.Change.Entry.Cost,a1.Change.Entry.Label,(([0,1,9,10]:List Int).getD x9.1.toNat default),a1.Boot,a1.Yours,a1.Turn,a1.Num,a1.Heard,a1.Change.Kind,a1.Change.Entry.Addr,x9.2.p))
else
(if (x4.1 == 3)=true then
 bd (spec_l41Rd_pick_m (⟨a0.b,x4.2.p⟩:l41Rd) 3) fun x11 =>
 gd ((0:Int)≤x11.1∧x11.1<((([0,999,1000]:List Int).length:Nat):Int)) <|
 some (.inl (a1.From,a1.To,a1.Change.Entry.Len,a1.Change.Entry.Cost,a1.Change.Entry.Label,a1.Key,(([0,999,1000]:List Int).getD x11.1.toNat default),a1.Yours,a1.Turn,a1.Num,a1.Heard,a1.Change.Kind,a1.Change.Entry.Addr,x11.2.p))
else
(if (x4.1 == 4)=true then
 bd (spec_l41Rd_pick_m (⟨a0.b,x4.2.p⟩:l41Rd) 3) fun x13 =>
 gd ((0:Int)≤x13.1∧x13.1<((([-1,999,1000]:List Int).length:Nat):Int)) <|
 some (.inl (a1.From,a1.To,a1.Change.Entry.Len,a1.Change.Entry.Cost,a1.Change.Entry.Label,a1.Key,a1.Boot,(([-1,999,1000]:List Int).getD x13.1.toNat default),a1.Turn,a1.Num,a1.Heard,a1.Change.Kind,a1.Change.Entry.Addr,x13.2.p))
else
(if (x4.1 == 5)=true then
 bd (spec_l41Rd_pick_m (⟨a0.b,x4.2.p⟩:l41Rd) 4) fun x15 =>
 gd ((0:Int)≤x15.1∧x15.1<((([0,1000000,1000001,1]:List Int).length:Nat):Int)) <|
 some (.inl (a1.From,a1.To,a1.Change.Entry.Len,a1.Change.Entry.Cost,a1.Change.Entry.Label,a1.Key,a1.Boot,a1.Yours,(([0,1000000,1000001,1]:List Int).getD x15.1.toNat default),a1.Num,a1.Heard,a1.Change.Kind,a1.Change.Entry.Addr,x15.2.p))
else
(if (x4.1 == 6)=true then
 bd (spec_l41Rd_pick_m (⟨a0.b,x4.2.p⟩:l41Rd) 3) fun x17 =>
 gd ((0:Int)≤x17.1∧x17.1<((([-1,a1.Turn,IntKind.i64.wrap (a1.Turn+1)]:List Int).length:Nat):Int)) <|
 some (.inl (a1.From,a1.To,a1.Change.Entry.Len,a1.Change.Entry.Cost,a1.Change.Entry.Label,a1.Key,a1.Boot,a1.Yours,a1.Turn,(([-1,a1.Turn,IntKind.i64.wrap (a1.Turn+1)]:List Int).getD x17.1.toNat default),a1.Heard,a1.Change.Kind,a1.Change.Entry.Addr,x17.2.p))
else
(if (x4.1 == 7)=true then
 bd (spec_l41Rd_pick_m (⟨a0.b,x4.2.p⟩:l41Rd) 3) fun x19 =>
 gd ((0:Int)≤x19.1∧x19.1<((([-1,1000000,1000001]:List Int).length:Nat):Int)) <|
 some (.inl (a1.From,a1.To,a1.Change.Entry.Len,a1.Change.Entry.Cost,a1.Change.Entry.Label,a1.Key,a1.Boot,a1.Yours,a1.Turn,a1.Num,(([-1,1000000,1000001]:List Int).getD x19.1.toNat default),a1.Change.Kind,a1.Change.Entry.Addr,x19.2.p))
else
(if (x4.1 == 8)=true then
 bd (spec_l41Rd_pick_m (⟨a0.b,x4.2.p⟩:l41Rd) 4) fun x21 =>
 gd ((0:Int)≤x21.1∧x21.1<((([-1,2147483646,2147483647,IntKind.i64.wrap (a1.Sum+1)]:List Int).length:Nat):Int)) <|
 some (.inr ((([-1,2147483646,2147483647,IntKind.i64.wrap (a1.Sum+1)]:List Int).getD x21.1.toNat default),x21.2.p))
else
(if (x4.1 == 9)=true then
 bd (spec_l46SpoilEntry_m (⟨a0.b,x4.2.p⟩:l41Rd) a1.Change.Entry) fun x23 =>
 some (.inl (a1.From,a1.To,x23.1.Len,x23.1.Cost,x23.1.Label,a1.Key,a1.Boot,a1.Yours,a1.Turn,a1.Num,a1.Heard,a1.Change.Kind,x23.1.Addr,x23.2.p))
else
 bd (spec_l41Rd_pick_m (⟨a0.b,x4.2.p⟩:l41Rd) 6) fun x24 =>
 gd ((0:Int)≤x24.1∧x24.1<((([-1,0,1,2,3,4]:List Int).length:Nat):Int)) <|
 some (.inl (a1.From,a1.To,a1.Change.Entry.Len,a1.Change.Entry.Cost,a1.Change.Entry.Label,a1.Key,a1.Boot,a1.Yours,a1.Turn,a1.Num,a1.Heard,(([-1,0,1,2,3,4]:List Int).getD x24.1.toNat default),a1.Change.Entry.Addr,x24.2.p))))))))))))) fun x1 =>
(match x1 with
| .inl d3 =>
 bd (spec_l41Rd_pick_m (⟨a0.b,d3.2.2.2.2.2.2.2.2.2.2.2.2.2⟩:l41Rd) 2) fun x26 =>
(if (x26.1 == 0)=true then
 bd (spec_HelloSum_m 7 (⟨d3.1,d3.2.1,d3.2.2.2.2.2.1,d3.2.2.2.2.2.2.1,d3.2.2.2.2.2.2.2.1,d3.2.2.2.2.2.2.2.2.1,d3.2.2.2.2.2.2.2.2.2.1,d3.2.2.2.2.2.2.2.2.2.2.1,(⟨d3.2.2.2.2.2.2.2.2.2.2.2.1,(⟨d3.2.2.2.2.2.2.2.2.2.2.2.2.1,d3.2.2.1,d3.2.2.2.1,d3.2.2.2.2.1⟩:HelloEntry)⟩:HelloChange),a1.Sum⟩:HelloWord)) fun x27 =>
 some ((⟨d3.1,d3.2.1,d3.2.2.2.2.2.1,d3.2.2.2.2.2.2.1,d3.2.2.2.2.2.2.2.1,d3.2.2.2.2.2.2.2.2.1,d3.2.2.2.2.2.2.2.2.2.1,d3.2.2.2.2.2.2.2.2.2.2.1,(⟨d3.2.2.2.2.2.2.2.2.2.2.2.1,(⟨d3.2.2.2.2.2.2.2.2.2.2.2.2.1,d3.2.2.1,d3.2.2.2.1,d3.2.2.2.2.1⟩:HelloEntry)⟩:HelloChange),x27⟩:HelloWord),(⟨a0.b,x26.2.p⟩:l41Rd))
else
 some ((⟨d3.1,d3.2.1,d3.2.2.2.2.2.1,d3.2.2.2.2.2.2.1,d3.2.2.2.2.2.2.2.1,d3.2.2.2.2.2.2.2.2.1,d3.2.2.2.2.2.2.2.2.2.1,d3.2.2.2.2.2.2.2.2.2.2.1,(⟨d3.2.2.2.2.2.2.2.2.2.2.2.1,(⟨d3.2.2.2.2.2.2.2.2.2.2.2.2.1,d3.2.2.1,d3.2.2.2.1,d3.2.2.2.2.1⟩:HelloEntry)⟩:HelloChange),a1.Sum⟩:HelloWord),(⟨a0.b,x26.2.p⟩:l41Rd)))
| .inr d28 =>
 some ({ a1 with Sum:=d28.1 },(⟨a0.b,d28.2⟩:l41Rd)))
theorem spec_l46SpoilWord_c {a0:l41Rd} {a1:HelloWord} {r:HelloWord × l41Rd} (h:spec_l46SpoilWord_m a0 a1=some r):EffC Tryz.prog 116 [.ref 9000 0 0,.agg [.d (.int .i64 a1.From),.d (.int .i64 a1.To),.d (.int .i64 a1.Key),.d (.int .i64 a1.Boot),.d (.int .i64 a1.Yours),.d (.int .i64 a1.Turn),.d (.int .i64 a1.Num),.d (.int .i64 a1.Heard),.d (.int .i64 a1.Change.Kind),.d (.int .i64 a1.Change.Entry.Addr),.d (.int .i64 a1.Change.Entry.Len),.d (.int .i64 a1.Change.Entry.Cost),.d (.int .i64 a1.Change.Entry.Label),.d (.int .i64 a1.Sum)]] [(9000,.box 113 [.d (slD encByte a0.b),.d (.int .i64 a0.p)])] (.agg [.d (.int .i64 r.1.From),.d (.int .i64 r.1.To),.d (.int .i64 r.1.Key),.d (.int .i64 r.1.Boot),.d (.int .i64 r.1.Yours),.d (.int .i64 r.1.Turn),.d (.int .i64 r.1.Num),.d (.int .i64 r.1.Heard),.d (.int .i64 r.1.Change.Kind),.d (.int .i64 r.1.Change.Entry.Addr),.d (.int .i64 r.1.Change.Entry.Len),.d (.int .i64 r.1.Change.Entry.Cost),.d (.int .i64 r.1.Change.Entry.Label),.d (.int .i64 r.1.Sum)]) [(9000,.box 113 [.d (slD encByte a0.b),.d (.int .i64 r.2.p)])]:=by
  refine effC_x tOk (fn:=Tryz.f116) (c:=codeOf Tryz.f116) rfl rfl ?_;unfold spec_l46SpoilWord_m at h;(conv=>whnf);obtain ⟨x1,hx1,h⟩:=bd_some h;refine seq_join tOk (fun s2=>⟨0,111,[(0,.ref 9000 0 0),(3,.ref 3 0 0),(4,.ref 4 0 0)],[],[(4,.box 45 [.d (.int .i64 0),.d (.int .i64 0),.d (.int .i64 0),.d (.int .i64 0),.d (.int .i64 0),.d (.int .i64 0),.d (.int .i64 0),.d (.int .i64 0),.d (.int .i64 0),.d (.int .i64 0),.d (.int .i64 0),.d (.int .i64 0),.d (.int .i64 0),.d (.int .i64 0)]),(3,.box 45 [.d (.int .i64 s2.1),.d (.int .i64 s2.2.1),.d (.int .i64 s2.2.2.2.2.2.1),.d (.int .i64 s2.2.2.2.2.2.2.1),.d (.int .i64 s2.2.2.2.2.2.2.2.1),.d (.int .i64 s2.2.2.2.2.2.2.2.2.1),.d (.int .i64 s2.2.2.2.2.2.2.2.2.2.1),.d (.int .i64 s2.2.2.2.2.2.2.2.2.2.2.1),.d (.int .i64 s2.2.2.2.2.2.2.2.2.2.2.2.1),.d (.int .i64 s2.2.2.2.2.2.2.2.2.2.2.2.2.1),.d (.int .i64 s2.2.2.1),.d (.int .i64 s2.2.2.2.1),.d (.int .i64 s2.2.2.2.2.1),.d (.int .i64 a1.Sum)]),(9000,.box 113 [.d (slD encByte a0.b),.d (.int .i64 s2.2.2.2.2.2.2.2.2.2.2.2.2.2)])],[⟨[(0,.ref 9000 0 0)],[]⟩]⟩) (fun s2=>x1=.inl s2) ?_ ?_
  · (conv=>whnf);obtain ⟨x4,hx4,hx1⟩:=bd_some hx1;refine cE [(9000,9000)] 0 (spec_l41Rd_pick_c hx4) ?_;(conv=>whnf);refine andI hx1 (fun _ hx1=>?_) (fun _ hx1=>?_)
    · (conv=>whnf);refine bldS (enc:=encInt) ([-1,65535,65536,7]:List Int) ?_;(conv=>whnf);obtain ⟨x5,hx5,hx1⟩:=bd_some hx1;refine cE [(9000,9000)] 0 (spec_l41Rd_pick_c hx5) ?_;(conv=>whnf);refine gdI hx1 (fun hx1=>?_);(conv=>whnf);obtain rfl:=Option.some.inj hx1;exact ⟨_,rfl,leX []⟩
    · (conv=>whnf);refine andI hx1 (fun _ hx1=>?_) (fun _ hx1=>?_)
      · (conv=>whnf);refine bldS (enc:=encInt) ([-1,65535,65536,7]:List Int) ?_;(conv=>whnf);obtain ⟨x7,hx7,hx1⟩:=bd_some hx1;refine cE [(9000,9000)] 0 (spec_l41Rd_pick_c hx7) ?_;(conv=>whnf);refine gdI hx1 (fun hx1=>?_);(conv=>whnf);obtain rfl:=Option.some.inj hx1;exact ⟨_,rfl,leX []⟩
      · (conv=>whnf);refine andI hx1 (fun _ hx1=>?_) (fun _ hx1=>?_)
        · (conv=>whnf);refine bldS (enc:=encInt) ([0,1,9,10]:List Int) ?_;(conv=>whnf);obtain ⟨x9,hx9,hx1⟩:=bd_some hx1;refine cE [(9000,9000)] 0 (spec_l41Rd_pick_c hx9) ?_;(conv=>whnf);refine gdI hx1 (fun hx1=>?_);(conv=>whnf);obtain rfl:=Option.some.inj hx1;exact ⟨_,rfl,leX []⟩
        · (conv=>whnf);refine andI hx1 (fun _ hx1=>?_) (fun _ hx1=>?_)
          · (conv=>whnf);refine bldS (enc:=encInt) ([0,999,1000]:List Int) ?_;(conv=>whnf);obtain ⟨x11,hx11,hx1⟩:=bd_some hx1;refine cE [(9000,9000)] 0 (spec_l41Rd_pick_c hx11) ?_;(conv=>whnf);refine gdI hx1 (fun hx1=>?_);(conv=>whnf);obtain rfl:=Option.some.inj hx1;exact ⟨_,rfl,leX []⟩
          · (conv=>whnf);refine andI hx1 (fun _ hx1=>?_) (fun _ hx1=>?_)
            · (conv=>whnf);refine bldS (enc:=encInt) ([-1,999,1000]:List Int) ?_;(conv=>whnf);obtain ⟨x13,hx13,hx1⟩:=bd_some hx1;refine cE [(9000,9000)] 0 (spec_l41Rd_pick_c hx13) ?_;(conv=>whnf);refine gdI hx1 (fun hx1=>?_);(conv=>whnf);obtain rfl:=Option.some.inj hx1;exact ⟨_,rfl,leX []⟩
            · (conv=>whnf);refine andI hx1 (fun _ hx1=>?_) (fun _ hx1=>?_)
              · (conv=>whnf);refine bldS (enc:=encInt) ([0,1000000,1000001,1]:List Int) ?_;(conv=>whnf);obtain ⟨x15,hx15,hx1⟩:=bd_some hx1;refine cE [(9000,9000)] 0 (spec_l41Rd_pick_c hx15) ?_;(conv=>whnf);refine gdI hx1 (fun hx1=>?_);(conv=>whnf);obtain rfl:=Option.some.inj hx1;exact ⟨_,rfl,leX []⟩
              · (conv=>whnf);refine andI hx1 (fun _ hx1=>?_) (fun _ hx1=>?_)
                · (conv=>whnf);obtain ⟨x17,hx17,hx1⟩:=bd_some hx1;obtain ⟨g18,hx1⟩:=gd_some hx1;refine draw_t tOk [.e 7 [(9000,.box 113 [.d (slD encByte a0.b),.d (.int .i64 x4.2.p)])] (.d (.int .i64 x17.1)) [] [(9000,.box 113 [.d (slD encByte a0.b),.d (.int .i64 x17.2.p)])]] 11 [] [0,1,0,4,12,31,0,64,255,511,1023] [2047] [9000] ?_;(conv=>whnf);refine bldS (enc:=encInt) ([-1,a1.Turn,IntKind.i64.wrap (a1.Turn+1)]:List Int) ?_;(conv=>whnf);refine And.intro (eD [(9000,9000)] 0 (spec_l41Rd_pick_c hx17)) ?_;(conv=>whnf);refine And.intro g18 ?_;clear g18;(conv=>whnf);refine And.intro (by kernel_rfl) ?_;(conv=>whnf);obtain rfl:=Option.some.inj hx1;exact ⟨_,rfl,leX []⟩
                · (conv=>whnf);refine andI hx1 (fun _ hx1=>?_) (fun _ hx1=>?_)
                  · (conv=>whnf);refine bldS (enc:=encInt) ([-1,1000000,1000001]:List Int) ?_;(conv=>whnf);obtain ⟨x19,hx19,hx1⟩:=bd_some hx1;refine cE [(9000,9000)] 0 (spec_l41Rd_pick_c hx19) ?_;(conv=>whnf);refine gdI hx1 (fun hx1=>?_);(conv=>whnf);obtain rfl:=Option.some.inj hx1;exact ⟨_,rfl,leX []⟩
                  · (conv=>whnf);refine andI hx1 (fun _ hx1=>?_) (fun _ hx1=>?_)
                    · (conv=>whnf);obtain ⟨x21,hx21,hx1⟩:=bd_some hx1;obtain ⟨g22,hx1⟩:=gd_some hx1;refine draw_t tOk [.e 5 [(9000,.box 113 [.d (slD encByte a0.b),.d (.int .i64 x4.2.p)])] (.d (.int .i64 x21.1)) [] [(9000,.box 113 [.d (slD encByte a0.b),.d (.int .i64 x21.2.p)])]] 9 [] [0,1,3,7,0,16,63,127,255] [511] [9000] ?_;(conv=>whnf);refine bldS (enc:=encInt) ([-1,2147483646,2147483647,IntKind.i64.wrap (a1.Sum+1)]:List Int) ?_;(conv=>whnf);refine And.intro (eD [(9000,9000)] 0 (spec_l41Rd_pick_c hx21)) ?_;(conv=>whnf);refine And.intro g22 ?_;clear g22;(conv=>whnf);refine And.intro (by kernel_rfl) ?_;(conv=>whnf);obtain rfl:=Option.some.inj hx1;obtain rfl:=Option.some.inj h;exact lfE []
                    · (conv=>whnf);refine andI hx1 (fun _ hx1=>?_) (fun _ hx1=>?_)
                      · (conv=>whnf);obtain ⟨x23,hx23,hx1⟩:=bd_some hx1;refine cE [(9000,9000)] 0 (spec_l46SpoilEntry_c hx23) ?_;(conv=>whnf);obtain rfl:=Option.some.inj hx1;exact ⟨_,rfl,leX []⟩
                      · (conv=>whnf);refine bldS (enc:=encInt) ([-1,0,1,2,3,4]:List Int) ?_;(conv=>whnf);obtain ⟨x24,hx24,hx1⟩:=bd_some hx1;refine cE [(9000,9000)] 0 (spec_l41Rd_pick_c hx24) ?_;(conv=>whnf);refine gdI hx1 (fun hx1=>?_);(conv=>whnf);obtain rfl:=Option.some.inj hx1;exact ⟨_,rfl,leX []⟩
  · intro d3 hdd3;subst hdd3;(conv=>whnf);refine seq_in tOk ?_;(conv=>whnf);obtain ⟨x26,hx26,h⟩:=bd_some h;refine cE [(9000,9000)] 0 (spec_l41Rd_pick_c hx26) ?_;(conv=>whnf);refine andI h (fun _ h=>?_) (fun _ h=>?_)
    · (conv=>whnf);obtain ⟨x27,hx27,h⟩:=bd_some h;refine cC 0 (spec_HelloSum_c hx27) ?_;clear hx27;(conv=>whnf);obtain rfl:=Option.some.inj h;exact lfE []
    · (conv=>whnf);obtain rfl:=Option.some.inj h;exact lfE []
end Go.Proofs.YtaoeomoepefojaaGreat
