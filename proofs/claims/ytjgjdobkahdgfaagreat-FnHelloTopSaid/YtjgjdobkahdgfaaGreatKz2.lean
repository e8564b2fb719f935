/-
  What some of the program's functions compute: their models, and that the functions compute these; no condition.
-/
import Derived.Test.YtjgjdobkahdgfaaGreatTyz
import Derived.Test.YtjgjdobkahdgfaaGreatTbz
import Derived.Test.YtjgjdobkahdgfaaGreatAbz7
import Derived.Test.YtjgjdobkahdgfaaGreatKz1
set_option linter.all false
namespace Go.Proofs.YtjgjdobkahdgfaaGreat
open Go Go.Ab
set_option maxRecDepth 100000
set_option maxHeartbeats 40000000
noncomputable def Qbw (a0:Qwe) (a1:Qwm):Option (Qwn × Qwe) :=
 bd (Qe a0 2) fun x1 =>
 bd (α:=Int × Int) ((if (decide (((a1.Radio.length:Nat):Int) > 0))=true then
 bd (Qe (⟨a0.b,x1.2.p⟩:Qwe) 3) fun x6 =>
(if ((decide (((a1.Radio.length:Nat):Int) > 0)) && (x6.1 == 0))=true then
 bd (Qe (⟨a0.b,x6.2.p⟩:Qwe) ((a1.Radio.length:Nat):Int)) fun x7 =>
 some (x7.2.p,x7.1)
else
 some (x6.2.p,0))
else
(if ((decide (((a1.Radio.length:Nat):Int) > 0)) && ((0:Int) == 0))=true then
 bd (Qe (⟨a0.b,x1.2.p⟩:Qwe) ((a1.Radio.length:Nat):Int)) fun x8 =>
 some (x8.2.p,x8.1)
else
 some (x1.2.p,0)))) fun x2 =>
 bd (Qe (⟨a0.b,x2.1⟩:Qwe) 22) fun x9 =>
 bd (α:=Bool) ((if (x9.1 == 0)=true then
 some (x9.1 == 0)
else
(if (x9.1 == 1)=true then
 some (x9.1 == 1)
else
(if (x9.1 == 2)=true then
 some (x9.1 == 2)
else
(if (x9.1 == 3)=true then
 some (x9.1 == 3)
else
(if (x9.1 == 4)=true then
 some (x9.1 == 4)
else
 some (x9.1 == 5))))))) fun x10 =>
(if x10=true then
 some ((⟨1,x1.1,[],[],(⟨0,0,0,0,0,0,0,0,(⟨0,(⟨0,0,0,0⟩:Qwg)⟩:Qwh),0⟩:Qwl)⟩:Qwn),(⟨a0.b,x9.2.p⟩:Qwe))
else
 bd (α:=Bool) ((if (x9.1 == 6)=true then
 some (x9.1 == 6)
else
(if (x9.1 == 7)=true then
 some (x9.1 == 7)
else
(if (x9.1 == 8)=true then
 some (x9.1 == 8)
else
(if (x9.1 == 9)=true then
 some (x9.1 == 9)
else
(if (x9.1 == 10)=true then
 some (x9.1 == 10)
else
(if (x9.1 == 11)=true then
 some (x9.1 == 11)
else
(if (x9.1 == 12)=true then
 some (x9.1 == 12)
else
 some (x9.1 == 13))))))))) fun x13 =>
(if x13=true then
 some ((⟨2,x2.2,[],[],(⟨0,0,0,0,0,0,0,0,(⟨0,(⟨0,0,0,0⟩:Qwg)⟩:Qwh),0⟩:Qwl)⟩:Qwn),(⟨a0.b,x9.2.p⟩:Qwe))
else
(if (x9.1 == 14)=true then
 some ((⟨3,x2.2,[],[],(⟨0,0,0,0,0,0,0,0,(⟨0,(⟨0,0,0,0⟩:Qwg)⟩:Qwh),0⟩:Qwl)⟩:Qwn),(⟨a0.b,x9.2.p⟩:Qwe))
else
(if (x9.1 == 15)=true then
 some ((⟨4,x2.2,[],[],(⟨0,0,0,0,0,0,0,0,(⟨0,(⟨0,0,0,0⟩:Qwg)⟩:Qwh),0⟩:Qwl)⟩:Qwn),(⟨a0.b,x9.2.p⟩:Qwe))
else
(if (x9.1 == 16)=true then
 some ((⟨5,x1.1,[],[],(⟨0,0,0,0,0,0,0,0,(⟨0,(⟨0,0,0,0⟩:Qwg)⟩:Qwh),0⟩:Qwl)⟩:Qwn),(⟨a0.b,x9.2.p⟩:Qwe))
else
(if (x9.1 == 17)=true then
 bd (Qe (⟨a0.b,x9.2.p⟩:Qwe) 3) fun x16 =>
(if (x16.1 == 0)=true then
 some ((⟨6,x1.1,[],[],(⟨0,0,0,0,0,0,0,0,(⟨0,(⟨0,0,0,0⟩:Qwg)⟩:Qwh),0⟩:Qwl)⟩:Qwn),(⟨a0.b,x16.2.p⟩:Qwe))
else
 some ((⟨5,x1.1,[],[],(⟨0,0,0,0,0,0,0,0,(⟨0,(⟨0,0,0,0⟩:Qwg)⟩:Qwh),0⟩:Qwl)⟩:Qwn),(⟨a0.b,x16.2.p⟩:Qwe)))
else
(if (x9.1 == 18)=true then
 some ((⟨7,x1.1,[],[],(⟨0,0,0,0,0,0,0,0,(⟨0,(⟨0,0,0,0⟩:Qwg)⟩:Qwh),0⟩:Qwl)⟩:Qwn),(⟨a0.b,x9.2.p⟩:Qwe))
else
(if (x9.1 == 19)=true then
 bd (Qaa (⟨a0.b,x9.2.p⟩:Qwe)) fun x17 =>
 some ((⟨8,x1.1,x17.1,[],(⟨0,0,0,0,0,0,0,0,(⟨0,(⟨0,0,0,0⟩:Qwg)⟩:Qwh),0⟩:Qwl)⟩:Qwn),(⟨a0.b,x17.2.p⟩:Qwe))
else
(if (x9.1 == 20)=true then
 bd (Qe (⟨a0.b,x9.2.p⟩:Qwe) 3) fun x18 =>
(if (x18.1 == 0)=true then
 bd (Qbe (⟨a0.b,x18.2.p⟩:Qwe)) fun x19 =>
 some ((⟨9,x1.1,[],x19.1,(⟨0,0,0,0,0,0,0,0,(⟨0,(⟨0,0,0,0⟩:Qwg)⟩:Qwh),0⟩:Qwl)⟩:Qwn),(⟨a0.b,x19.2.p⟩:Qwe))
else
 some ((⟨7,x1.1,[],[],(⟨0,0,0,0,0,0,0,0,(⟨0,(⟨0,0,0,0⟩:Qwg)⟩:Qwh),0⟩:Qwl)⟩:Qwn),(⟨a0.b,x18.2.p⟩:Qwe)))
else
 bd (Qa2 (⟨a0.b,x9.2.p⟩:Qwe) a1) fun x20 =>
 some ((⟨10,0,[],[],x20.1⟩:Qwn),(⟨a0.b,x20.2.p⟩:Qwe)))))))))))
theorem QiX {a0:Qwe} {a1:Qwm} {r:Qwn × Qwe} (h:Qbw a0 a1=some r):EffC Tryz.prog 35 [.ref 9000 0 0,.agg [.d (slD Qwk.enc a1.Sides),.d (slD Qwl.enc a1.Radio)]] [(9000,.box 75 [.d (slD QR a0.b),dI a0.p])] (.agg (dI r.1.Kind :: dI r.1.At :: .osl 5001 0 r.1.Want.length :: .osl 5002 0 r.1.Keys.length :: hwC r.1.Word)) [(9000,.box 75 [.d (slD QR a0.b),dI r.2.p]),(5001,.arr 31 4 r.1.Want.length (rows Qwg.enc r.1.Want)),(5002,.arr 93 2 r.1.Keys.length (rows Qwf.enc r.1.Keys))]:=by
  refine Q7 tOk (fn:=Tryz.f35) (c:=Qj Tryz.f35) rfl rfl ?_;unfold Qbw at h;(conv=>whnf);obtain ⟨x1,hx1,h⟩:=Qa h;refine cE [(9000,9000)] 0 (Qh hx1) ?_;(conv=>whnf);obtain ⟨x2,hx2,h⟩:=Qa h;refine JZ tOk (fun s3=>⟨0,91,[(0,.ref 9000 0 0),(3,.ref 3 0 0),(4,.ref 4 0 0),(5,dI x1.1),(6,dI s3.2)],[],[(4,.box 44 [dI 0,dI 0,.d (.nil),.d (.nil),dI 0,dI 0,dI 0,dI 0,dI 0,dI 0,dI 0,dI 0,dI 0,dI 0,dI 0,dI 0,dI 0,dI 0]),(3,.box 26 [.d (slD Qwk.enc a1.Sides),.d (slD Qwl.enc a1.Radio)]),(9000,.box 75 [.d (slD QR a0.b),dI s3.1])],[⟨[(0,.ref 9000 0 0)],[]⟩]⟩) (fun s3=>x2=s3) ?_ ?_
  · (conv=>whnf);refine spI hx2 (fun hb5 hx2=>?_) (fun hb5 hx2=>?_)
    · obtain ⟨x6,hx6,hx2⟩:=Qa hx2;refine Qna [(9000,9000)] 0 (Qh hx6) (by (conv=>whnf); exact fun q=>absurd (q.symm.trans hb5) (by decide)) ?_;(conv=>whnf);refine Qz hx2 (fun _ hx2=>?_) (fun _ hx2=>?_)
      · (conv=>whnf);obtain ⟨x7,hx7,hx2⟩:=Qa hx2;refine cE [(9000,9000)] 0 (Qh hx7) ?_;(conv=>whnf);obtain rfl:=sj_ hx2;exact ⟨_,rfl,leX []⟩
      · (conv=>whnf);obtain rfl:=sj_ hx2;exact ⟨_,rfl,leX []⟩
    · refine Qlc (dI 0) ?_ (by (conv=>whnf); exact fun q=>absurd (hb5.symm.trans q) (by decide));(conv=>whnf);refine Qz hx2 (fun _ hx2=>?_) (fun _ hx2=>?_)
      · (conv=>whnf);obtain ⟨x8,hx8,hx2⟩:=Qa hx2;refine cE [(9000,9000)] 0 (Qh hx8) ?_;(conv=>whnf);obtain rfl:=sj_ hx2;exact ⟨_,rfl,leX []⟩
      · (conv=>whnf);obtain rfl:=sj_ hx2;exact ⟨_,rfl,leX []⟩
  · rintro _ rfl;(conv=>whnf);refine Qc tOk ?_;(conv=>whnf);obtain ⟨x9,hx9,h⟩:=Qa h;refine cE [(9000,9000)] 0 (Qh hx9) ?_;(conv=>whnf);obtain ⟨x10,hx10,h⟩:=Qa h;refine JZ tOk (fun s11=>⟨0,91,[(0,.ref 9000 0 0),(3,.ref 3 0 0),(4,.ref 4 0 0),(5,dI x1.1),(6,dI x2.2),(24,dI x9.1),(25,dB s11)],[],[(4,.box 44 [dI 0,dI 0,.d (.nil),.d (.nil),dI 0,dI 0,dI 0,dI 0,dI 0,dI 0,dI 0,dI 0,dI 0,dI 0,dI 0,dI 0,dI 0,dI 0]),(3,.box 26 [.d (slD Qwk.enc a1.Sides),.d (slD Qwl.enc a1.Radio)]),(9000,.box 75 [.d (slD QR a0.b),dI x9.2.p])],[⟨[(0,.ref 9000 0 0)],[]⟩]⟩) (fun s11=>x10=s11) ?_ ?_
    · (conv=>whnf);refine Qz hx10 (fun _ hx10=>?_) (fun _ hx10=>?_)
      · (conv=>whnf);obtain rfl:=sj_ hx10;exact ⟨_,rfl,leX []⟩
      · (conv=>whnf);refine Qz hx10 (fun _ hx10=>?_) (fun _ hx10=>?_)
        · (conv=>whnf);obtain rfl:=sj_ hx10;exact ⟨_,rfl,leX []⟩
        · (conv=>whnf);refine Qz hx10 (fun _ hx10=>?_) (fun _ hx10=>?_)
          · (conv=>whnf);obtain rfl:=sj_ hx10;exact ⟨_,rfl,leX []⟩
          · (conv=>whnf);refine Qz hx10 (fun _ hx10=>?_) (fun _ hx10=>?_)
            · (conv=>whnf);obtain rfl:=sj_ hx10;exact ⟨_,rfl,leX []⟩
            · (conv=>whnf);refine Qz hx10 (fun _ hx10=>?_) (fun _ hx10=>?_)
              · (conv=>whnf);obtain rfl:=sj_ hx10;exact ⟨_,rfl,leX []⟩
              · (conv=>whnf);obtain rfl:=sj_ hx10;exact ⟨_,rfl,leX []⟩
    · rintro _ rfl;(conv=>whnf);refine Qz h (fun _ h=>?_) (fun _ h=>?_)
      · (conv=>whnf);obtain rfl:=sj_ h;exact lfE [.k [3],.p 5001 31 4 (rows Qwg.enc ([]:List Qwg)),.p 5002 93 2 (rows Qwf.enc ([]:List Qwf))]
      · (conv=>whnf);obtain ⟨x13,hx13,h⟩:=Qa h;refine JZ tOk (fun s14=>⟨0,91,[(0,.ref 9000 0 0),(3,.ref 3 0 0),(4,.ref 4 0 0),(5,dI x1.1),(6,dI x2.2),(24,dI x9.1),(34,dB s14)],[],[(4,.box 44 [dI 0,dI 0,.d (.nil),.d (.nil),dI 0,dI 0,dI 0,dI 0,dI 0,dI 0,dI 0,dI 0,dI 0,dI 0,dI 0,dI 0,dI 0,dI 0]),(3,.box 26 [.d (slD Qwk.enc a1.Sides),.d (slD Qwl.enc a1.Radio)]),(9000,.box 75 [.d (slD QR a0.b),dI x9.2.p])],[⟨[(0,.ref 9000 0 0)],[]⟩]⟩) (fun s14=>x13=s14) ?_ ?_
        · (conv=>whnf);refine Qz hx13 (fun _ hx13=>?_) (fun _ hx13=>?_)
          · (conv=>whnf);obtain rfl:=sj_ hx13;exact ⟨_,rfl,leX []⟩
          · (conv=>whnf);refine Qz hx13 (fun _ hx13=>?_) (fun _ hx13=>?_)
            · (conv=>whnf);obtain rfl:=sj_ hx13;exact ⟨_,rfl,leX []⟩
            · (conv=>whnf);refine Qz hx13 (fun _ hx13=>?_) (fun _ hx13=>?_)
              · (conv=>whnf);obtain rfl:=sj_ hx13;exact ⟨_,rfl,leX []⟩
              · (conv=>whnf);refine Qz hx13 (fun _ hx13=>?_) (fun _ hx13=>?_)
                · (conv=>whnf);obtain rfl:=sj_ hx13;exact ⟨_,rfl,leX []⟩
                · (conv=>whnf);refine Qz hx13 (fun _ hx13=>?_) (fun _ hx13=>?_)
                  · (conv=>whnf);obtain rfl:=sj_ hx13;exact ⟨_,rfl,leX []⟩
                  · (conv=>whnf);refine Qz hx13 (fun _ hx13=>?_) (fun _ hx13=>?_)
                    · (conv=>whnf);obtain rfl:=sj_ hx13;exact ⟨_,rfl,leX []⟩
                    · (conv=>whnf);refine Qz hx13 (fun _ hx13=>?_) (fun _ hx13=>?_)
                      · (conv=>whnf);obtain rfl:=sj_ hx13;exact ⟨_,rfl,leX []⟩
                      · (conv=>whnf);obtain rfl:=sj_ hx13;exact ⟨_,rfl,leX []⟩
        · rintro _ rfl;(conv=>whnf);refine Qz h (fun _ h=>?_) (fun _ h=>?_)
          · (conv=>whnf);obtain rfl:=sj_ h;exact lfE [.k [3],.p 5001 31 4 (rows Qwg.enc ([]:List Qwg)),.p 5002 93 2 (rows Qwf.enc ([]:List Qwf))]
          · (conv=>whnf);refine Qz h (fun _ h=>?_) (fun _ h=>?_)
            · (conv=>whnf);obtain rfl:=sj_ h;exact lfE [.k [3],.p 5001 31 4 (rows Qwg.enc ([]:List Qwg)),.p 5002 93 2 (rows Qwf.enc ([]:List Qwf))]
            · (conv=>whnf);refine Qz h (fun _ h=>?_) (fun _ h=>?_)
              · (conv=>whnf);obtain rfl:=sj_ h;exact lfE [.k [3],.p 5001 31 4 (rows Qwg.enc ([]:List Qwg)),.p 5002 93 2 (rows Qwf.enc ([]:List Qwf))]
              · (conv=>whnf);refine Qz h (fun _ h=>?_) (fun _ h=>?_)
                · (conv=>whnf);obtain rfl:=sj_ h;exact lfE [.k [3],.p 5001 31 4 (rows Qwg.enc ([]:List Qwg)),.p 5002 93 2 (rows Qwf.enc ([]:List Qwf))]
                · (conv=>whnf);refine Qz h (fun _ h=>?_) (fun _ h=>?_)
                  · (conv=>whnf);refine Qc tOk ?_;(conv=>whnf);obtain ⟨x16,hx16,h⟩:=Qa h;refine cE [(9000,9000)] 0 (Qh hx16) ?_;(conv=>whnf);refine Qz h (fun _ h=>?_) (fun _ h=>?_)
                    · (conv=>whnf);obtain rfl:=sj_ h;exact lfE [.k [3],.p 5001 31 4 (rows Qwg.enc ([]:List Qwg)),.p 5002 93 2 (rows Qwf.enc ([]:List Qwf))]
                    · (conv=>whnf);obtain rfl:=sj_ h;exact lfE [.k [3],.p 5001 31 4 (rows Qwg.enc ([]:List Qwg)),.p 5002 93 2 (rows Qwf.enc ([]:List Qwf))]
                  · (conv=>whnf);refine Qz h (fun _ h=>?_) (fun _ h=>?_)
                    · (conv=>whnf);obtain rfl:=sj_ h;exact lfE [.k [3],.p 5001 31 4 (rows Qwg.enc ([]:List Qwg)),.p 5002 93 2 (rows Qwf.enc ([]:List Qwf))]
                    · (conv=>whnf);refine Qz h (fun _ h=>?_) (fun _ h=>?_)
                      · (conv=>whnf);obtain ⟨x17,hx17,h⟩:=Qa h;refine cE [(9000,9000)] 1000 (QdI hx17) ?_;(conv=>whnf);obtain rfl:=sj_ h;exact lfE [.k [3],.s [(5001,6001),(6001,5001)],.p 5002 93 2 (rows Qwf.enc ([]:List Qwf))]
                      · (conv=>whnf);refine Qz h (fun _ h=>?_) (fun _ h=>?_)
                        · (conv=>whnf);refine Qc tOk ?_;(conv=>whnf);obtain ⟨x18,hx18,h⟩:=Qa h;refine cE [(9000,9000)] 0 (Qh hx18) ?_;(conv=>whnf);refine Qz h (fun _ h=>?_) (fun _ h=>?_)
                          · (conv=>whnf);obtain ⟨x19,hx19,h⟩:=Qa h;refine cE [(9000,9000)] 1000 (Qf9 hx19) ?_;(conv=>whnf);obtain rfl:=sj_ h;exact lfE [.k [3],.s [(5002,6001),(6001,5002)],.p 5001 31 4 (rows Qwg.enc ([]:List Qwg))]
                          · (conv=>whnf);obtain rfl:=sj_ h;exact lfE [.k [3],.p 5001 31 4 (rows Qwg.enc ([]:List Qwg)),.p 5002 93 2 (rows Qwf.enc ([]:List Qwf))]
                        · (conv=>whnf);obtain ⟨x20,hx20,h⟩:=Qa h;refine cE [(9000,9000)] 0 (Qir hx20) ?_;(conv=>whnf);obtain rfl:=sj_ h;exact lfE [.k [3],.p 5001 31 4 (rows Qwg.enc ([]:List Qwg)),.p 5002 93 2 (rows Qwf.enc ([]:List Qwf))]
noncomputable def ZC (a0:Qwj):Option (Qwj) :=
 bd (Qaw a0.Keys) fun x1 =>
 bd (Q8 a0.Want) fun x2 =>
 bd (Q8 a0.Told) fun x3 =>
 bd (Q6 a0.Heard) fun x4 =>
 some ({ a0 with Keys:=x1,Want:=x2,Told:=x3,Heard:=x4 })
theorem Qcs {a0:Qwj} {r:Qwj} (h:ZC a0=some r):EffC Tryz.prog 75 [.agg (heC a0 (.d (slD Qwi.enc a0.Heard)))] [] (.agg (heC r (.d (slD Qwi.enc r.Heard)))) []:=by
  refine Q7 tOk (fn:=Tryz.f75) (c:=Qj Tryz.f75) rfl rfl ?_;unfold ZC at h;(conv=>whnf);obtain ⟨x1,hx1,h⟩:=Qa h;refine cC 1000 (Qec hx1) ?_;clear hx1;(conv=>whnf);obtain ⟨x2,hx2,h⟩:=Qa h;refine cC 2000 (ZF hx2) ?_;clear hx2;(conv=>whnf);obtain ⟨x3,hx3,h⟩:=Qa h;refine cC 3000 (ZF hx3) ?_;clear hx3;(conv=>whnf);obtain ⟨x4,hx4,h⟩:=Qa h;refine cC 4000 (Jo hx4) ?_;clear hx4;(conv=>whnf);obtain rfl:=sj_ h;exact lfE [.f [6001,7001,8001,9001]]
noncomputable def Qax (a0:Qwm):Option (Qwm) :=
 gd (((0)+(a0.Radio.length))*(112+1)≤70368744177664) <|
 bd (lp (σ:=List Qwk × Int) (β:=((List Qwk) × Nat)) (fun s1 =>
(if (decide (s1.2<((a0.Sides.length:Nat):Int)))=true then
 gd ((0:Int)≤s1.2∧s1.2<((a0.Sides.length:Nat):Int)) <|
 gd ((0:Int)≤s1.2∧s1.2<((a0.Sides.length:Nat):Int)) <|
 bd (ZC ({ ((a0.Sides.getD s1.2.toNat default).End) with Under:=(⟨(((a0.Sides.getD s1.2.toNat default).End).Under).Kind,((((a0.Sides.getD s1.2.toNat default).End).Under).Entry)⟩:Qwh) })) fun x7 =>
 gd (((s1.1.length)+(([(⟨(a0.Sides.getD s1.2.toNat default).Up,x7⟩:Qwk)]:List Qwk).length))*(248+1)≤70368744177664) <|
 some (.inl ((s1.1 ++ ([(⟨(a0.Sides.getD s1.2.toNat default).Up,x7⟩:Qwk)]:List Qwk)),IntKind.i64.wrap (s1.2+1)))
else
 some (.inr (s1.1,s1.1.length)))) (([]:List Qwk),0)) fun x4 =>
 some (⟨x4.1,a0.Radio⟩:Qwm)
theorem Qge {a0:Qwm} {r:Qwm} (h:Qax a0=some r):EffC Tryz.prog 38 [.agg [.d (slD Qwk.enc a0.Sides),.d (slD Qwl.enc a0.Radio)]] [] (.agg [.osl 5001 0 r.Sides.length,.osl 5002 0 r.Radio.length]) [(5001,.arr 38 23 r.Sides.length (rows Qwk.enc r.Sides)),(5002,.arr 42 14 r.Radio.length (rows Qwl.enc r.Radio))]:=by
  refine Q7 tOk (fn:=Tryz.f38) (c:=Qj Tryz.f38) rfl rfl ?_;unfold Qax at h;(conv=>whnf);refine gdI h (fun h=>?_);refine QuX (enc:=Qwl.enc) (ys:=a0.Radio) ?_;(conv=>whnf);refine Qc tOk ?_;(conv=>whnf);obtain ⟨x4,hx4,h⟩:=Qa h;refine Zj tOk hx4 (fun s1=>⟨0,38,[(1,.ref 1 0 0),(2,.ref 2 0 0),(3,.ref 3 0 0),(4,dI s1.2)],[],[(7001,.arr 38 23 s1.1.length (rows Qwk.enc s1.1)),(3,.box 26 [.osl 7001 0 s1.1.length,.osl 9 0 a0.Radio.length]),(9,.arr 42 14 a0.Radio.length (rows Qwl.enc a0.Radio)),(2,.box 26 [.d (.nil),.d (.nil)]),(1,.box 26 [.d (slD Qwk.enc a0.Sides),.d (slD Qwl.enc a0.Radio)])],[⟨[],[]⟩]⟩) ?_ ?_
  · exact leX [.p 7001 38 23 (rows Qwk.enc ([]:List Qwk))]
  · clear hx4;intro s1 y2 g3 hy2;(conv=>whnf);refine Qc tOk ?_;(conv=>whnf);refine Qz g3 (fun _ g3=>?_) (fun _ g3=>?_)
    · (conv=>whnf);refine Qc tOk ?_;(conv=>whnf);obtain ⟨g5,g3⟩:=Qf g3;obtain ⟨g6,g3⟩:=Qf g3;obtain ⟨x7,hx7,g3⟩:=Qa g3;refine QaG tOk [.e 14 [] (.agg (heC x7 (.d (slD Qwi.enc x7.Heard)))) [] []] 17 [] [0,1,0,4,0,28,60,124,0,256,0,1792,3840,7936,16128,32764,65532] [131071,262143,524287] [] ?_;(conv=>whnf);refine And.intro g5 ?_;clear g5;(conv=>whnf);refine And.intro g6 ?_;clear g6;(conv=>whnf);refine And.intro (eD [] 0 (Qcs hx7)) ?_;(conv=>whnf);refine Qj1 (enc:=Qwk.enc) ([(⟨(a0.Sides.getD s1.2.toNat default).Up,x7⟩:Qwk)]:List Qwk) ?_;(conv=>whnf);refine And.intro (by kernel_rfl) ?_;(conv=>whnf);refine gdI g3 (fun g3=>?_);refine Qj2 (enc:=Qwk.enc) (xs:=s1.1) (ys:=([(⟨(a0.Sides.getD s1.2.toNat default).Up,x7⟩:Qwk)]:List Qwk)) ?_;(conv=>whnf);obtain rfl:=sj_ g3;exact ⟨_,rfl,leX []⟩
    · (conv=>whnf);obtain rfl:=sj_ g3;obtain rfl:=hy2 _ rfl;obtain rfl:=sj_ h;exact lfE [.s [(9,5002),(5001,7001),(5002,9),(7001,5001)]]
noncomputable def ZN (a0:(List Qwf)) (a1:Qwl):Option (Bool) :=
 bd (Jh a0) fun x1 =>
 bd (gcall ((!x1)=false) (Ji a1)) fun x2 =>
(if ((!x1) || (!x2))=true then
 some false
else
 bd (lp (σ:=Int) (β:=(Bool ⊕ Unit)) (fun s3 =>
(if (decide (s3<((a0.length:Nat):Int)))=true then
 gd ((0:Int)≤s3∧s3<((a0.length:Nat):Int)) <|
(if (((a0.getD s3.toNat default).Id) == a1.Key)=true then
 gd ((0:Int)≤s3∧s3<((a0.length:Nat):Int)) <|
 bd (Qab ((a0.getD s3.toNat default).Secret) a1) fun x9 =>
 some (.inr (.inl (x9 == a1.Sum)))
else
 some (.inl (IntKind.i64.wrap (s3+1))))
else
 some (.inr (.inr ())))) 0) fun x6 =>
(match x6 with
| .inl d10 =>
 some d10
| .inr d11 =>
 some false))
theorem QaK {a0:(List Qwf)} {a1:Qwl} {r:Bool} (h:ZN a0 a1=some r):PureC Tryz.prog 114 [.d (slD Qwf.enc a0),.agg (hwC a1)] (dB r) []:=by
  refine Qq tOk (fn:=Tryz.f114) (c:=Qj Tryz.f114) rfl rfl ?_;unfold ZN at h;(conv=>whnf);refine Qc tOk ?_;(conv=>whnf);obtain ⟨x1,hx1,h⟩:=Qa h;refine cC 0 (Qcq hx1) ?_;clear hx1;(conv=>whnf);obtain ⟨x2,hx2,h⟩:=Qa h;refine cG (fun c0=>Qcr (Qd hx2 c0)) ?_;(conv=>whnf);refine Qz h (fun _ h=>?_) (fun _ h=>?_)
  · (conv=>whnf);obtain rfl:=sj_ h;exact lfP []
  · (conv=>whnf);refine Qc tOk ?_;(conv=>whnf);obtain ⟨x6,hx6,h⟩:=Qa h;refine Zj tOk hx6 (fun s3=>⟨0,38,[(0,.d (slD Qwf.enc a0)),(3,.ref 3 0 0),(5,dI s3)],[],[(3,.box 42 (hwC a1))],[]⟩) ?_ ?_
    · exact leX []
    · clear hx6;intro s3 y4 g5 hy4;(conv=>whnf);refine Qc tOk ?_;(conv=>whnf);refine Qz g5 (fun _ g5=>?_) (fun _ g5=>?_)
      · (conv=>whnf);refine Qc tOk ?_;(conv=>whnf);obtain ⟨g7,g5⟩:=Qf g5;refine QS tOk [] 8 [] [0,0,3,7,15,0,32,127] [] ?_;(conv=>whnf);refine And.intro g7 ?_;clear g7;(conv=>whnf);refine And.intro (by kernel_rfl) ?_;(conv=>whnf);refine Qz g5 (fun _ g5=>?_) (fun _ g5=>?_)
        · (conv=>whnf);obtain ⟨g8,g5⟩:=Qf g5;obtain ⟨x9,hx9,g5⟩:=Qa g5;refine QS tOk [.u 6 0 (dI x9) []] 11 [] [0,0,3,7,15,0,63,0,128,511,1023] [] ?_;(conv=>whnf);refine And.intro g8 ?_;clear g8;(conv=>whnf);refine And.intro (QM (QdK hx9) (by kernel_rfl)) ?_;(conv=>whnf);refine And.intro (by kernel_rfl) ?_;(conv=>whnf);obtain rfl:=sj_ g5;obtain rfl:=hy4 _ rfl;obtain rfl:=sj_ h;exact lfP []
        · (conv=>whnf);obtain rfl:=sj_ g5;exact ⟨_,rfl,leX []⟩
      · (conv=>whnf);obtain rfl:=sj_ g5;obtain rfl:=hy4 _ rfl;obtain rfl:=sj_ h;exact lfP []
noncomputable def Qbx (a0:Qwj):Option (Qwj) :=
 bd (lp (σ:=List Qwi × Int) (β:=(Nat × (List Qwi))) (fun s1 =>
(if (decide (s1.2<((s1.1.length:Nat):Int)))=true then
 gd ((0:Int)≤s1.2∧s1.2<((s1.1.length:Nat):Int)) <|
 some (.inl (s1.1.set s1.2.toNat (⟨((s1.1.getD s1.2.toNat default).Entry),true⟩:Qwi),IntKind.i64.wrap (s1.2+1)))
else
 some (.inr (s1.1.length,s1.1)))) (a0.Heard,0)) fun x4 =>
(if ((decide (((x4.1:Nat):Int) > 0)) && (a0.Keep == 0))=true then
 some ({ a0 with Heard:=x4.2,Keep:=6 })
else
 some ({ a0 with Heard:=x4.2 }))
theorem QiY {a0:Qwj} {r:Qwj} (h:Qbx a0=some r):EffC Tryz.prog 161 [.agg (heC a0 (.osl 9000 0 a0.Heard.length))] [(9000,.arr 96 5 a0.Heard.length (rows Qwi.enc a0.Heard))] (.agg (heC r (.osl 5001 0 r.Heard.length))) [(5001,.arr 96 5 r.Heard.length (rows Qwi.enc r.Heard))]:=by
  refine Q7 tOk (fn:=Tryz.f161) (c:=Qj Tryz.f161) rfl rfl ?_;unfold Qbx at h;(conv=>whnf);refine Qc tOk ?_;(conv=>whnf);obtain ⟨x4,hx4,h⟩:=Qa h;refine Zj tOk hx4 (fun s1=>⟨0,27,[(1,.ref 1 0 0),(2,.ref 2 0 0),(3,dI s1.2)],[],[(2,.box 36 [dI 0,dI 0,.d (.nil),dI 0,.d (.nil),dI 0,dI 0,dI 0,dB false,dI 0,dI 0,dI 0,dI 0,dI 0,dI 0,dI 0,.d (.nil),dB false,dI 0,dB false,.d (.nil),dI 0]),(1,.box 36 (heC a0 (.osl 9000 0 s1.1.length))),(9000,.arr 96 5 s1.1.length (rows Qwi.enc s1.1))],[⟨[],[]⟩]⟩) ?_ ?_
  · exact leX []
  · clear hx4;intro s1 y2 g3 hy2;(conv=>whnf);refine Qc tOk ?_;(conv=>whnf);refine Qz g3 (fun _ g3=>?_) (fun _ g3=>?_)
    · (conv=>whnf);refine Qc tOk ?_;(conv=>whnf);refine gdI g3 (fun g3=>?_);(conv=>whnf);refine ⟨rows Qwi.enc (s1.1.set s1.2.toNat (⟨((s1.1.getD s1.2.toNat default).Entry),true⟩:Qwi)),Jg Qm7 rfl,?_⟩;(conv=>whnf);obtain rfl:=sj_ g3;exact ⟨_,rfl,leX []⟩
    · (conv=>whnf);obtain rfl:=sj_ g3;obtain rfl:=hy2 _ rfl;refine Qc tOk ?_;(conv=>whnf);refine Qz h (fun _ h=>?_) (fun _ h=>?_)
      · (conv=>whnf);obtain rfl:=sj_ h;exact lfE [.s [(5001,9000),(9000,5001)]]
      · (conv=>whnf);obtain rfl:=sj_ h;exact lfE [.s [(5001,9000),(9000,5001)]]
noncomputable def Qay (a0:Qwj):Option (Qwj) :=
 bd (Qbx ({ a0 with Up:=false,Num:=0,Under:=(⟨0,(⟨0,0,0,0⟩:Qwg)⟩:Qwh),Told:=[],All:=false,Got:=0,Full:=false })) fun x1 =>
 some x1
theorem Qed {a0:Qwj} {r:Qwj} (h:Qay a0=some r):EffC Tryz.prog 147 [.agg (heC a0 (.osl 9000 0 a0.Heard.length))] [(9000,.arr 96 5 a0.Heard.length (rows Qwi.enc a0.Heard))] (.agg (heC r (.osl 5001 0 r.Heard.length))) [(5001,.arr 96 5 r.Heard.length (rows Qwi.enc r.Heard))]:=by
  refine Q7 tOk (fn:=Tryz.f147) (c:=Qj Tryz.f147) rfl rfl ?_;unfold Qay at h;(conv=>whnf);obtain ⟨x1,hx1,h⟩:=Qa h;refine cE [(9000,9000)] 1000 (QiY hx1) ?_;(conv=>whnf);obtain rfl:=sj_ h;exact lfE [.s [(5001,6001),(6001,5001)]]
noncomputable def JL (a0:Qwj):Option (Qwj) :=
 bd (Qbu a0.Told a0.Under) fun x1 =>
(if (a0.Under.Kind == 3)=true then
 some ({ a0 with Under:=(⟨0,(⟨0,0,0,0⟩:Qwg)⟩:Qwh),Told:=x1,All:=true })
else
 some ({ a0 with Under:=(⟨0,(⟨0,0,0,0⟩:Qwg)⟩:Qwh),Told:=x1 }))
theorem Qg0 {a0:Qwj} {r:Qwj} (h:JL a0=some r):EffC Tryz.prog 162 [.agg (heC a0 (.d (slD Qwi.enc a0.Heard)))] [] (.agg (dI r.Name :: dI r.Peer :: .d (slD Qwf.enc r.Keys) :: dI r.Boot :: .d (slD Qwg.enc r.Want) :: dI r.Turn :: dI r.PeerBoot :: dI r.PeerTurn :: dB r.Up :: dI r.Left :: dI r.Num :: dI r.Under.Kind :: hnC r.Under.Entry ++ [.osl 5001 0 r.Told.length,dB r.All,dI r.Got,dB r.Full,.d (slD Qwi.enc r.Heard),dI r.Keep])) [(5001,.arr 31 4 r.Told.length (rows Qwg.enc r.Told))]:=by
  refine Q7 tOk (fn:=Tryz.f162) (c:=Qj Tryz.f162) rfl rfl ?_;unfold JL at h;(conv=>whnf);obtain ⟨x1,hx1,h⟩:=Qa h;refine cC 1000 (QiV hx1) ?_;clear hx1;(conv=>whnf);refine Qc tOk ?_;(conv=>whnf);refine Qz h (fun _ h=>?_) (fun _ h=>?_)
  · (conv=>whnf);obtain rfl:=sj_ h;exact lfE [.s [(5001,6001),(6001,5001)]]
  · (conv=>whnf);obtain rfl:=sj_ h;exact lfE [.s [(5001,6001),(6001,5001)]]
noncomputable def Qac (a0:(List Qwi)) (a1:Qwg):Option (Int) :=
 bd (lp (σ:=Int) (β:=(Int)) (fun s1 =>
 gd ((decide (s1<((a0.length:Nat):Int)))=true→((0:Int)≤s1∧s1<((a0.length:Nat):Int))) <|
 bd (gcall ((decide (s1<((a0.length:Nat):Int)))=true) (ZK ((a0.getD s1.toNat default).Entry) a1)) fun x6 =>
(if ((decide (s1<((a0.length:Nat):Int))) && x6)=true then
 some (.inl (IntKind.i64.wrap (s1+1)))
else
 some (.inr s1))) 0) fun x4 =>
 some x4
theorem QdL {a0:(List Qwi)} {a1:Qwg} {r:Int} (h:Qac a0 a1=some r):PureC Tryz.prog 172 [.d (slD Qwi.enc a0),.agg (hnC a1)] (dI r) []:=by
  refine Qq tOk (fn:=Tryz.f172) (c:=Qj Tryz.f172) rfl rfl ?_;unfold Qac at h;(conv=>whnf);refine Qc tOk ?_;(conv=>whnf);obtain ⟨x4,hx4,h⟩:=Qa h;refine Zj tOk hx4 (fun s1=>⟨0,22,[(0,.d (slD Qwi.enc a0)),(3,.ref 3 0 0),(5,dI s1)],[],[(3,.box 31 (hnC a1))],[]⟩) ?_ ?_
  · exact leX []
  · clear hx4;intro s1 y2 g3 hy2;(conv=>whnf);refine Qc tOk ?_;(conv=>whnf);obtain ⟨g5,g3⟩:=Qf g3;obtain ⟨x6,hx6,g3⟩:=Qa g3;refine QS tOk [.u 11 0 (dB x6) []] 13 [] [0,0,2,7,15,31,31,127,255,511,31,2047,4095] [] ?_;(conv=>whnf);refine And.intro g5 ?_;clear g5;(conv=>whnf);refine And.intro (Q1 rfl rfl rfl rfl (by intro c0; exact QcW (Qd hx6 c0))) ?_;(conv=>whnf);refine And.intro (by kernel_rfl) ?_;(conv=>whnf);refine Qz g3 (fun _ g3=>?_) (fun _ g3=>?_)
    · (conv=>whnf);obtain rfl:=sj_ g3;exact ⟨_,rfl,leX []⟩
    · (conv=>whnf);obtain rfl:=sj_ g3;obtain rfl:=hy2 _ rfl;obtain rfl:=sj_ h;exact lfP []
noncomputable def ZS (a0:(List Qwi)):Option (Int) :=
 bd (lp (σ:=Int) (β:=(Int ⊕ Unit)) (fun s1 =>
(if (decide (s1<((a0.length:Nat):Int)))=true then
 gd ((0:Int)≤s1∧s1<((a0.length:Nat):Int)) <|
(if (a0.getD s1.toNat default).Stale=true then
 some (.inr (.inl s1))
else
 some (.inl (IntKind.i64.wrap (s1+1))))
else
 some (.inr (.inr ())))) 0) fun x4 =>
(match x4 with
| .inl d6 =>
 some d6
| .inr d7 =>
 some (-1))
theorem QbY {a0:(List Qwi)} {r:Int} (h:ZS a0=some r):PureC Tryz.prog 174 [.d (slD Qwi.enc a0)] (dI r) []:=by
  refine Qq tOk (fn:=Tryz.f174) (c:=Qj Tryz.f174) rfl rfl ?_;unfold ZS at h;(conv=>whnf);refine Qc tOk ?_;(conv=>whnf);obtain ⟨x4,hx4,h⟩:=Qa h;refine Zj tOk hx4 (fun s1=>⟨0,16,[(0,.d (slD Qwi.enc a0)),(3,dI s1)],[],[],[]⟩) ?_ ?_
  · exact leX []
  · clear hx4;intro s1 y2 g3 hy2;(conv=>whnf);refine Qc tOk ?_;(conv=>whnf);refine Qz g3 (fun _ g3=>?_) (fun _ g3=>?_)
    · (conv=>whnf);refine Qc tOk ?_;(conv=>whnf);refine gdI g3 (fun g3=>?_);(conv=>whnf);refine Qz g3 (fun _ g3=>?_) (fun _ g3=>?_)
      · (conv=>whnf);obtain rfl:=sj_ g3;obtain rfl:=hy2 _ rfl;obtain rfl:=sj_ h;exact lfP []
      · (conv=>whnf);obtain rfl:=sj_ g3;exact ⟨_,rfl,leX []⟩
    · (conv=>whnf);obtain rfl:=sj_ g3;obtain rfl:=hy2 _ rfl;obtain rfl:=sj_ h;exact lfP []
noncomputable def QaL (a0:(List Qwi)) (a1:Int):Option ((List Qwi)) :=
 gd ((0:Int)≤(0:Int)∧(0:Int)≤a1∧a1≤((a0.length:Nat):Int)) <|
 bd (Q6 (a0.take a1.toNat)) fun x2 =>
 gd ((0:Int)≤IntKind.i64.wrap (a1+1)∧IntKind.i64.wrap (a1+1)≤((a0.length:Nat):Int)∧((a0.length:Nat):Int)≤((a0.length:Nat):Int)) <|
 gd (((x2.length)+((QcL ((a0.length:Nat):Int) (IntKind.i64.wrap (a1+1)))))*(40+1)≤70368744177664) <|
 some (x2 ++ (((a0).take ((IntKind.i64.wrap (a1+1)).toNat+(QcL ((a0.length:Nat):Int) (IntKind.i64.wrap (a1+1))))).drop ((IntKind.i64.wrap (a1+1)).toNat)))
theorem QhF {a0:(List Qwi)} {a1:Int} {r:(List Qwi)} (h:QaL a0 a1=some r):PureC Tryz.prog 173 [.d (slD Qwi.enc a0),dI a1] (.osl 5001 0 r.length) [⟨5001,96,5,r.length,rows Qwi.enc r⟩]:=by
  refine Qq tOk (fn:=Tryz.f173) (c:=Qj Tryz.f173) rfl rfl ?_;unfold QaL at h;(conv=>whnf);obtain ⟨g1,h⟩:=Qf h;obtain ⟨x2,hx2,h⟩:=Qa h;obtain ⟨g3,h⟩:=Qf h;refine QS tOk [.u 3 1000 (.osl 5001 0 x2.length) [⟨5001,96,5,x2.length,rows Qwi.enc x2⟩]] 8 [] [0,0,3,7,0,0,32,112] [255,511] ?_;(conv=>whnf);refine And.intro ⟨g1,.inr rfl⟩ ?_;(conv=>whnf);refine And.intro (Qm8 (Jo hx2) rfl Qpj) ?_;(conv=>whnf);refine And.intro ⟨g3,.inr rfl⟩ ?_;(conv=>whnf);refine And.intro (by kernel_rfl) ?_;(conv=>whnf);refine gdI h (fun h=>?_);refine Qj2 (enc:=Qwi.enc) (xs:=x2) (ys:=((a0).take ((IntKind.i64.wrap (a1+1)).toNat+(QcL ((a0.length:Nat):Int) (IntKind.i64.wrap (a1+1))))).drop ((IntKind.i64.wrap (a1+1)).toNat)) ?_;(conv=>whnf);obtain rfl:=sj_ h;exact lfP [.s [(5001,6001),(6001,5001)]]
noncomputable def Qa3 (a0:(List Qwi)) (a1:Qwg):Option ((List Qwi) × Bool) :=
 bd (Qac a0 a1) fun x1 =>
 gd ((decide (x1<((a0.length:Nat):Int)))=true→((0:Int)≤x1∧x1<((a0.length:Nat):Int))) <|
 gd (((decide (x1<((a0.length:Nat):Int))) && ((((a0.getD x1.toNat default).Entry).Addr) == a1.Addr))=true→((0:Int)≤x1∧x1<((a0.length:Nat):Int))) <|
(if (((decide (x1<((a0.length:Nat):Int))) && ((((a0.getD x1.toNat default).Entry).Addr) == a1.Addr)) && ((((a0.getD x1.toNat default).Entry).Len) == a1.Len))=true then
 bd (Q6 a0) fun x4 =>
 gd ((0:Int)≤x1∧x1<((x4.length:Nat):Int)) <|
 some (x4.set x1.toNat (⟨a1,false⟩:Qwi),true)
else
(if (((a0.length:Nat):Int) == 16)=true then
 bd (ZS a0) fun x6 =>
(if (decide (x6<0))=true then
 some (a0,false)
else
 none)
else
 gd ((0:Int)≤(0:Int)∧(0:Int)≤x1∧x1≤((a0.length:Nat):Int)) <|
 bd (Q6 (a0.take x1.toNat)) fun x8 =>
 gd (((x8.length)+(([(⟨a1,false⟩:Qwi)]:List Qwi).length))*(40+1)≤70368744177664) <|
 gd ((0:Int)≤x1∧x1≤((a0.length:Nat):Int)∧((a0.length:Nat):Int)≤((a0.length:Nat):Int)) <|
 gd ((((x8 ++ ([(⟨a1,false⟩:Qwi)]:List Qwi)).length)+((QcL ((a0.length:Nat):Int) x1)))*(40+1)≤70368744177664) <|
 some (((x8 ++ ([(⟨a1,false⟩:Qwi)]:List Qwi)) ++ (((a0).take (x1.toNat+(QcL ((a0.length:Nat):Int) x1))).drop x1.toNat)),true)))
theorem Qis {a0:(List Qwi)} {a1:Qwg} {r:(List Qwi) × Bool} (h:Qa3 a0 a1=some r):EffC Tryz.prog 171 [.d (slD Qwi.enc a0),.agg (hnC a1)] [] (.tup [.d (slD Qwi.enc r.1),dB r.2]) []:=by
  refine Q7 tOk (fn:=Tryz.f171) (c:=Qj Tryz.f171) rfl rfl ?_;unfold Qa3 at h;(conv=>whnf);obtain ⟨x1,hx1,h⟩:=Qa h;refine cC 0 (QdL hx1) ?_;clear hx1;(conv=>whnf);refine Qc tOk ?_;(conv=>whnf);obtain ⟨g2,h⟩:=Qf h;obtain ⟨g3,h⟩:=Qf h;refine QS tOk [] 26 [] [0,0,2,7,15,31,31,127,255,511,1023,31,2079,8191,16383,32767,65535,65535,262143,524287,1048575,2097151,65535,4259839,16777215,33554431] [] ?_;(conv=>whnf);refine And.intro g2 ?_;clear g2;(conv=>whnf);refine And.intro g3 ?_;clear g3;(conv=>whnf);refine And.intro (by kernel_rfl) ?_;(conv=>whnf);refine Qz h (fun _ h=>?_) (fun _ h=>?_)
  · (conv=>whnf);obtain ⟨x4,hx4,h⟩:=Qa h;refine cC 1000 (Jo hx4) ?_;clear hx4;(conv=>whnf);refine gdI h (fun h=>?_);(conv=>whnf);refine ⟨rows Qwi.enc (x4.set x1.toNat (⟨a1,false⟩:Qwi)),Jg Qm7 rfl,?_⟩;(conv=>whnf);obtain rfl:=sj_ h;exact lfE [.f [6001]]
  · (conv=>whnf);refine Qc tOk ?_;(conv=>whnf);refine Qz h (fun _ h=>?_) (fun _ h=>?_)
    · (conv=>whnf);obtain ⟨x6,hx6,h⟩:=Qa h;refine cC 0 (QbY hx6) ?_;clear hx6;(conv=>whnf);refine Qc tOk ?_;(conv=>whnf);refine Qz h (fun _ h=>?_) (fun _ h=>?_)
      · (conv=>whnf);obtain rfl:=sj_ h;exact lfE []
      · (conv=>whnf);cases h
    · (conv=>whnf);obtain ⟨g7,h⟩:=Qf h;obtain ⟨x8,hx8,h⟩:=Qa h;obtain ⟨g9,h⟩:=Qf h;obtain ⟨g10,h⟩:=Qf h;obtain ⟨g11,h⟩:=Qf h;refine QaG tOk [.e 3 [] (.osl 6001 0 x8.length) [] [(6001,.arr 96 5 x8.length (rows Qwi.enc x8))],.a 7 [(6001,.arr 96 5 x8.length (rows Qwi.enc x8))] (.osl 68 0 ((x8 ++ ([(⟨a1,false⟩:Qwi)]:List Qwi)).length)) [(68,.arr 96 5 ((x8 ++ ([(⟨a1,false⟩:Qwi)]:List Qwi)).length) (rows Qwi.enc (x8 ++ ([(⟨a1,false⟩:Qwi)]:List Qwi))))],.a 11 [(68,.arr 96 5 ((x8 ++ ([(⟨a1,false⟩:Qwi)]:List Qwi)).length) (rows Qwi.enc (x8 ++ ([(⟨a1,false⟩:Qwi)]:List Qwi))))] (.osl 72 0 (((x8 ++ ([(⟨a1,false⟩:Qwi)]:List Qwi)) ++ (((a0).take (x1.toNat+(QcL ((a0.length:Nat):Int) x1))).drop x1.toNat)).length)) [(72,.arr 96 5 (((x8 ++ ([(⟨a1,false⟩:Qwi)]:List Qwi)) ++ (((a0).take (x1.toNat+(QcL ((a0.length:Nat):Int) x1))).drop x1.toNat)).length) (rows Qwi.enc ((x8 ++ ([(⟨a1,false⟩:Qwi)]:List Qwi)) ++ (((a0).take (x1.toNat+(QcL ((a0.length:Nat):Int) x1))).drop x1.toNat))))]] 14 [] [0,0,3,7,0,16,48,127,0,0,768,2047,4095,8191] [] [] ?_;(conv=>whnf);refine And.intro ⟨g7,.inr rfl⟩ ?_;(conv=>whnf);refine And.intro (eH [] 1000 ((Jo hx8).eff rfl rfl)) ?_;(conv=>whnf);refine Qj1 (enc:=Qwi.enc) ([(⟨a1,false⟩:Qwi)]:List Qwi) ?_;(conv=>whnf);refine And.intro (by (conv=>whnf); exact ⟨g9,Qj2 (enc:=Qwi.enc) (xs:=x8) (ys:=([(⟨a1,false⟩:Qwi)]:List Qwi)) ⟨rfl,rfl⟩⟩) ?_;(conv=>whnf);refine And.intro ⟨g10,.inr rfl⟩ ?_;(conv=>whnf);refine And.intro (by (conv=>whnf); exact ⟨g11,Qj2 (enc:=Qwi.enc) (xs:=(x8 ++ ([(⟨a1,false⟩:Qwi)]:List Qwi))) (ys:=((a0).take (x1.toNat+(QcL ((a0.length:Nat):Int) x1))).drop x1.toNat) ⟨rfl,rfl⟩⟩) ?_;(conv=>whnf);refine And.intro (by kernel_rfl) ?_;(conv=>whnf);obtain rfl:=sj_ h;exact lfE [.f [72]]
noncomputable def Qaj (a0:(List Qwi)) (a1:Int):Option ((List Qwi)) :=
 gd ((0:Int)≤(0:Int)∧(0:Int)≤a1∧a1≤((a0.length:Nat):Int)) <|
 bd (Q6 (a0.take a1.toNat)) fun x2 =>
 gd ((0:Int)≤IntKind.i64.wrap (a1+1)∧IntKind.i64.wrap (a1+1)≤((a0.length:Nat):Int)∧((a0.length:Nat):Int)≤((a0.length:Nat):Int)) <|
 gd (((x2.length)+((QcL ((a0.length:Nat):Int) (IntKind.i64.wrap (a1+1)))))*(40+1)≤70368744177664) <|
 some (x2 ++ (((a0).take ((IntKind.i64.wrap (a1+1)).toNat+(QcL ((a0.length:Nat):Int) (IntKind.i64.wrap (a1+1))))).drop ((IntKind.i64.wrap (a1+1)).toNat)))
theorem Qfg {a0:(List Qwi)} {a1:Int} {r:(List Qwi)} (h:Qaj a0 a1=some r):EffC Tryz.prog 173 [.d (slD Qwi.enc a0),dI a1] [] (.d (slD Qwi.enc r)) []:=by
  refine Q7 tOk (fn:=Tryz.f173) (c:=Qj Tryz.f173) rfl rfl ?_;unfold Qaj at h;(conv=>whnf);obtain ⟨g1,h⟩:=Qf h;obtain ⟨x2,hx2,h⟩:=Qa h;obtain ⟨g3,h⟩:=Qf h;refine QS tOk [.u 3 1000 (.osl 5001 0 x2.length) [⟨5001,96,5,x2.length,rows Qwi.enc x2⟩]] 8 [] [0,0,3,7,0,0,32,112] [255,511] ?_;(conv=>whnf);refine And.intro ⟨g1,.inr rfl⟩ ?_;(conv=>whnf);refine And.intro (Qm8 (Jo hx2) rfl Qpj) ?_;(conv=>whnf);refine And.intro ⟨g3,.inr rfl⟩ ?_;(conv=>whnf);refine And.intro (by kernel_rfl) ?_;(conv=>whnf);refine gdI h (fun h=>?_);refine Qj2 (enc:=Qwi.enc) (xs:=x2) (ys:=((a0).take ((IntKind.i64.wrap (a1+1)).toNat+(QcL ((a0.length:Nat):Int) (IntKind.i64.wrap (a1+1))))).drop ((IntKind.i64.wrap (a1+1)).toNat)) ?_;(conv=>whnf);obtain rfl:=sj_ h;exact lfE [.f [6001]]
noncomputable def Qct (a0:(List Qwi)) (a1:Qwg):Option ((List Qwi) × Bool) :=
 bd (Qac a0 a1) fun x1 =>
 gd ((decide (x1<((a0.length:Nat):Int)))=true→((0:Int)≤x1∧x1<((a0.length:Nat):Int))) <|
 gd (((decide (x1<((a0.length:Nat):Int))) && ((((a0.getD x1.toNat default).Entry).Addr) == a1.Addr))=true→((0:Int)≤x1∧x1<((a0.length:Nat):Int))) <|
(if (((decide (x1<((a0.length:Nat):Int))) && ((((a0.getD x1.toNat default).Entry).Addr) == a1.Addr)) && ((((a0.getD x1.toNat default).Entry).Len) == a1.Len))=true then
 bd (Q6 a0) fun x4 =>
 gd ((0:Int)≤x1∧x1<((x4.length:Nat):Int)) <|
 some (x4.set x1.toNat (⟨a1,false⟩:Qwi),true)
else
(if (((a0.length:Nat):Int) == 16)=true then
 bd (ZS a0) fun x6 =>
(if (decide (x6<0))=true then
 some (a0,false)
else
 bd (Qaj a0 x6) fun x7 =>
 bd (Qa3 x7 a1) fun x8 =>
 some (x8.1,x8.2))
else
 gd ((0:Int)≤(0:Int)∧(0:Int)≤x1∧x1≤((a0.length:Nat):Int)) <|
 bd (Q6 (a0.take x1.toNat)) fun x10 =>
 gd (((x10.length)+(([(⟨a1,false⟩:Qwi)]:List Qwi).length))*(40+1)≤70368744177664) <|
 gd ((0:Int)≤x1∧x1≤((a0.length:Nat):Int)∧((a0.length:Nat):Int)≤((a0.length:Nat):Int)) <|
 gd ((((x10 ++ ([(⟨a1,false⟩:Qwi)]:List Qwi)).length)+((QcL ((a0.length:Nat):Int) x1)))*(40+1)≤70368744177664) <|
 some (((x10 ++ ([(⟨a1,false⟩:Qwi)]:List Qwi)) ++ (((a0).take (x1.toNat+(QcL ((a0.length:Nat):Int) x1))).drop x1.toNat)),true)))
theorem Qld {a0:(List Qwi)} {a1:Qwg} {r:(List Qwi) × Bool} (h:Qct a0 a1=some r):EffC Tryz.prog 171 [.d (slD Qwi.enc a0),.agg (hnC a1)] [] (.tup [.d (slD Qwi.enc r.1),dB r.2]) []:=by
  refine Q7 tOk (fn:=Tryz.f171) (c:=Qj Tryz.f171) rfl rfl ?_;unfold Qct at h;(conv=>whnf);obtain ⟨x1,hx1,h⟩:=Qa h;refine cC 0 (QdL hx1) ?_;clear hx1;(conv=>whnf);refine Qc tOk ?_;(conv=>whnf);obtain ⟨g2,h⟩:=Qf h;obtain ⟨g3,h⟩:=Qf h;refine QS tOk [] 26 [] [0,0,2,7,15,31,31,127,255,511,1023,31,2079,8191,16383,32767,65535,65535,262143,524287,1048575,2097151,65535,4259839,16777215,33554431] [] ?_;(conv=>whnf);refine And.intro g2 ?_;clear g2;(conv=>whnf);refine And.intro g3 ?_;clear g3;(conv=>whnf);refine And.intro (by kernel_rfl) ?_;(conv=>whnf);refine Qz h (fun _ h=>?_) (fun _ h=>?_)
  · (conv=>whnf);obtain ⟨x4,hx4,h⟩:=Qa h;refine cC 1000 (Jo hx4) ?_;clear hx4;(conv=>whnf);refine gdI h (fun h=>?_);(conv=>whnf);refine ⟨rows Qwi.enc (x4.set x1.toNat (⟨a1,false⟩:Qwi)),Jg Qm7 rfl,?_⟩;(conv=>whnf);obtain rfl:=sj_ h;exact lfE [.f [6001]]
  · (conv=>whnf);refine Qc tOk ?_;(conv=>whnf);refine Qz h (fun _ h=>?_) (fun _ h=>?_)
    · (conv=>whnf);obtain ⟨x6,hx6,h⟩:=Qa h;refine cC 0 (QbY hx6) ?_;clear hx6;(conv=>whnf);refine Qc tOk ?_;(conv=>whnf);refine Qz h (fun _ h=>?_) (fun _ h=>?_)
      · (conv=>whnf);obtain rfl:=sj_ h;exact lfE []
      · (conv=>whnf);obtain ⟨x7,hx7,h⟩:=Qa h;obtain ⟨x8,hx8,h⟩:=Qa h;refine QaG tOk [.e 2 [] (.d (slD Qwi.enc x7)) [] [],.e 4 [] (.tup [.d (slD Qwi.enc x8.1),dB x8.2]) [] []] 9 [] [0,0,3,0,15,31,31,127,255] [] [] ?_;(conv=>whnf);refine And.intro (eD [] 0 (Qfg hx7)) ?_;(conv=>whnf);refine And.intro (eD [] 0 (Qis hx8)) ?_;(conv=>whnf);refine And.intro (by kernel_rfl) ?_;(conv=>whnf);obtain rfl:=sj_ h;exact lfE []
    · (conv=>whnf);obtain ⟨g9,h⟩:=Qf h;obtain ⟨x10,hx10,h⟩:=Qa h;obtain ⟨g11,h⟩:=Qf h;obtain ⟨g12,h⟩:=Qf h;obtain ⟨g13,h⟩:=Qf h;refine QaG tOk [.e 3 [] (.osl 6001 0 x10.length) [] [(6001,.arr 96 5 x10.length (rows Qwi.enc x10))],.a 7 [(6001,.arr 96 5 x10.length (rows Qwi.enc x10))] (.osl 68 0 ((x10 ++ ([(⟨a1,false⟩:Qwi)]:List Qwi)).length)) [(68,.arr 96 5 ((x10 ++ ([(⟨a1,false⟩:Qwi)]:List Qwi)).length) (rows Qwi.enc (x10 ++ ([(⟨a1,false⟩:Qwi)]:List Qwi))))],.a 11 [(68,.arr 96 5 ((x10 ++ ([(⟨a1,false⟩:Qwi)]:List Qwi)).length) (rows Qwi.enc (x10 ++ ([(⟨a1,false⟩:Qwi)]:List Qwi))))] (.osl 72 0 (((x10 ++ ([(⟨a1,false⟩:Qwi)]:List Qwi)) ++ (((a0).take (x1.toNat+(QcL ((a0.length:Nat):Int) x1))).drop x1.toNat)).length)) [(72,.arr 96 5 (((x10 ++ ([(⟨a1,false⟩:Qwi)]:List Qwi)) ++ (((a0).take (x1.toNat+(QcL ((a0.length:Nat):Int) x1))).drop x1.toNat)).length) (rows Qwi.enc ((x10 ++ ([(⟨a1,false⟩:Qwi)]:List Qwi)) ++ (((a0).take (x1.toNat+(QcL ((a0.length:Nat):Int) x1))).drop x1.toNat))))]] 14 [] [0,0,3,7,0,16,48,127,0,0,768,2047,4095,8191] [] [] ?_;(conv=>whnf);refine And.intro ⟨g9,.inr rfl⟩ ?_;(conv=>whnf);refine And.intro (eH [] 1000 ((Jo hx10).eff rfl rfl)) ?_;(conv=>whnf);refine Qj1 (enc:=Qwi.enc) ([(⟨a1,false⟩:Qwi)]:List Qwi) ?_;(conv=>whnf);refine And.intro (by (conv=>whnf); exact ⟨g11,Qj2 (enc:=Qwi.enc) (xs:=x10) (ys:=([(⟨a1,false⟩:Qwi)]:List Qwi)) ⟨rfl,rfl⟩⟩) ?_;(conv=>whnf);refine And.intro ⟨g12,.inr rfl⟩ ?_;(conv=>whnf);refine And.intro (by (conv=>whnf); exact ⟨g13,Qj2 (enc:=Qwi.enc) (xs:=(x10 ++ ([(⟨a1,false⟩:Qwi)]:List Qwi))) (ys:=((a0).take (x1.toNat+(QcL ((a0.length:Nat):Int) x1))).drop x1.toNat) ⟨rfl,rfl⟩⟩) ?_;(conv=>whnf);refine And.intro (by kernel_rfl) ?_;(conv=>whnf);obtain rfl:=sj_ h;exact lfE [.f [72]]
noncomputable def QaM (a0:(List Qwi)):Option ((List Qwi)) :=
 bd (lp (σ:=List Qwi × Int) (β:=(Nat × (List Qwi))) (fun s1 =>
(if (decide (s1.2<((a0.length:Nat):Int)))=true then
 gd ((0:Int)≤s1.2∧s1.2<((a0.length:Nat):Int)) <|
(if (!((a0.getD s1.2.toNat default).Stale))=true then
 gd ((0:Int)≤s1.2∧s1.2<((a0.length:Nat):Int)) <|
 gd (((s1.1.length)+(([(⟨((a0.getD s1.2.toNat default).Entry),(a0.getD s1.2.toNat default).Stale⟩:Qwi)]:List Qwi).length))*(40+1)≤70368744177664) <|
 some (.inl ((s1.1 ++ ([(⟨((a0.getD s1.2.toNat default).Entry),(a0.getD s1.2.toNat default).Stale⟩:Qwi)]:List Qwi)),IntKind.i64.wrap (s1.2+1)))
else
 some (.inl (s1.1,IntKind.i64.wrap (s1.2+1))))
else
 some (.inr (s1.1.length,s1.1)))) (([]:List Qwi),0)) fun x4 =>
 some x4.2
theorem Qfn {a0:(List Qwi)} {r:(List Qwi)} (h:QaM a0=some r):PureC Tryz.prog 146 [.d (slD Qwi.enc a0)] (.osl 5001 0 r.length) [⟨5001,96,5,r.length,rows Qwi.enc r⟩]:=by
  refine Qq tOk (fn:=Tryz.f146) (c:=Qj Tryz.f146) rfl rfl ?_;unfold QaM at h;(conv=>whnf);refine Qc tOk ?_;(conv=>whnf);obtain ⟨x4,hx4,h⟩:=Qa h;refine Zj tOk hx4 (fun s1=>⟨0,26,[(0,.d (slD Qwi.enc a0)),(3,.osl 7001 0 s1.1.length),(4,dI s1.2)],[],[(7001,.arr 96 5 s1.1.length (rows Qwi.enc s1.1))],[]⟩) ?_ ?_
  · exact leX [.p 7001 96 5 (rows Qwi.enc ([]:List Qwi))]
  · clear hx4;intro s1 y2 g3 hy2;(conv=>whnf);refine Qc tOk ?_;(conv=>whnf);refine Qz g3 (fun _ g3=>?_) (fun _ g3=>?_)
    · (conv=>whnf);refine Qc tOk ?_;(conv=>whnf);refine gdI g3 (fun g3=>?_);(conv=>whnf);refine Qz g3 (fun _ g3=>?_) (fun _ g3=>?_)
      · (conv=>whnf);refine gdI g3 (fun g3=>?_);(conv=>whnf);refine Qj1 (enc:=Qwi.enc) ([(⟨((a0.getD s1.2.toNat default).Entry),(a0.getD s1.2.toNat default).Stale⟩:Qwi)]:List Qwi) ?_;(conv=>whnf);refine gdI g3 (fun g3=>?_);refine Qj2 (enc:=Qwi.enc) (xs:=s1.1) (ys:=([(⟨((a0.getD s1.2.toNat default).Entry),(a0.getD s1.2.toNat default).Stale⟩:Qwi)]:List Qwi)) ?_;(conv=>whnf);obtain rfl:=sj_ g3;exact ⟨_,rfl,leX []⟩
      · (conv=>whnf);obtain rfl:=sj_ g3;exact ⟨_,rfl,leX []⟩
    · (conv=>whnf);obtain rfl:=sj_ g3;obtain rfl:=hy2 _ rfl;obtain rfl:=sj_ h;exact lfP [.s [(5001,7001),(7001,5001)]]
noncomputable def Qaz (a0:(List Qwi)) (a1:Qwh):Option ((List Qwi) × Bool) :=
(if (a1.Kind == 1)=true then
 bd (Qct a0 a1.Entry) fun x1 =>
 some (x1.1,x1.2)
else
(if (a1.Kind == 2)=true then
 bd (Qac a0 a1.Entry) fun x2 =>
 gd ((decide (x2<((a0.length:Nat):Int)))=true→((0:Int)≤x2∧x2<((a0.length:Nat):Int))) <|
 gd (((decide (x2<((a0.length:Nat):Int))) && ((((a0.getD x2.toNat default).Entry).Addr) == a1.Entry.Addr))=true→((0:Int)≤x2∧x2<((a0.length:Nat):Int))) <|
(if (((decide (x2<((a0.length:Nat):Int))) && ((((a0.getD x2.toNat default).Entry).Addr) == a1.Entry.Addr)) && ((((a0.getD x2.toNat default).Entry).Len) == a1.Entry.Len))=true then
 bd (QaL a0 x2) fun x5 =>
 some (x5,true)
else
 some (a0,true))
else
 bd (QaM a0) fun x6 =>
 some (x6,true)))
theorem Qj6 {a0:(List Qwi)} {a1:Qwh} {r:(List Qwi) × Bool} (h:Qaz a0 a1=some r):EffC Tryz.prog 163 [.d (slD Qwi.enc a0),.agg (dI a1.Kind :: hnC a1.Entry)] [] (.tup [.d (slD Qwi.enc r.1),dB r.2]) []:=by
  refine Q7 tOk (fn:=Tryz.f163) (c:=Qj Tryz.f163) rfl rfl ?_;unfold Qaz at h;(conv=>whnf);refine Qc tOk ?_;(conv=>whnf);refine Qz h (fun _ h=>?_) (fun _ h=>?_)
  · (conv=>whnf);obtain ⟨x1,hx1,h⟩:=Qa h;refine cE [] 0 (Qld hx1) ?_;(conv=>whnf);obtain rfl:=sj_ h;exact lfE []
  · (conv=>whnf);refine Qz h (fun _ h=>?_) (fun _ h=>?_)
    · (conv=>whnf);obtain ⟨x2,hx2,h⟩:=Qa h;refine cC 0 (QdL hx2) ?_;clear hx2;(conv=>whnf);refine Qc tOk ?_;(conv=>whnf);obtain ⟨g3,h⟩:=Qf h;obtain ⟨g4,h⟩:=Qf h;refine QS tOk [] 28 [] [0,0,2,7,15,31,31,127,255,511,1023,31,2079,6175,16383,32767,65535,131071,131071,524287,1048575,2097151,4194303,131071,8519679,25296895,67108863,134217727] [] ?_;(conv=>whnf);refine And.intro g3 ?_;clear g3;(conv=>whnf);refine And.intro g4 ?_;clear g4;(conv=>whnf);refine And.intro (by kernel_rfl) ?_;(conv=>whnf);refine Qz h (fun _ h=>?_) (fun _ h=>?_)
      · (conv=>whnf);obtain ⟨x5,hx5,h⟩:=Qa h;refine cC 1000 (QhF hx5) ?_;clear hx5;(conv=>whnf);obtain rfl:=sj_ h;exact lfE [.f [6001]]
      · (conv=>whnf);obtain rfl:=sj_ h;exact lfE []
    · (conv=>whnf);obtain ⟨x6,hx6,h⟩:=Qa h;refine cC 1000 (Qfn hx6) ?_;clear hx6;(conv=>whnf);obtain rfl:=sj_ h;exact lfE [.f [6001]]
noncomputable def Zw (a0:Qwj):Option (Qwj) :=
 bd (ZS a0.Heard) fun x1 =>
(if (decide (x1<0))=true then
 some ({ a0 with Keep:=0 })
else
 some a0)
theorem Qee {a0:Qwj} {r:Qwj} (h:Zw a0=some r):EffC Tryz.prog 164 [.agg (heC a0 (.d (slD Qwi.enc a0.Heard)))] [] (.agg (heC r (.d (slD Qwi.enc r.Heard)))) []:=by
  refine Q7 tOk (fn:=Tryz.f164) (c:=Qj Tryz.f164) rfl rfl ?_;unfold Zw at h;(conv=>whnf);refine Qc tOk ?_;(conv=>whnf);obtain ⟨x1,hx1,h⟩:=Qa h;refine cC 0 (QbY hx1) ?_;clear hx1;(conv=>whnf);refine Qz h (fun _ h=>?_) (fun _ h=>?_)
  · (conv=>whnf);obtain rfl:=sj_ h;exact lfE []
  · (conv=>whnf);obtain rfl:=sj_ h;exact lfE []
noncomputable def Qa4 (a0:Qwj) (a1:Qwl):Option (Qwj) :=
 bd (α:=List Qwi × Int × Int × Int × Int × Int × Int × Int × Int × List Qwg × Bool × Int × Bool × List Qwf × Int × Int × List Qwg × Int × Int × Int × Bool × Int) ((if (decide (a1.Boot > a0.PeerBoot))=true then
 bd (Qay a0) fun x4 =>
 some (x4.Heard,x4.Name,x4.Peer,x4.Num,x4.Under.Kind,x4.Under.Entry.Addr,x4.Under.Entry.Len,x4.Under.Entry.Cost,x4.Under.Entry.Label,x4.Told,x4.All,x4.Got,x4.Full,x4.Keys,x4.Keep,x4.Boot,x4.Want,x4.Turn,a1.Boot,x4.PeerTurn,x4.Up,x4.Left)
else
 some (a0.Heard,a0.Name,a0.Peer,a0.Num,a0.Under.Kind,a0.Under.Entry.Addr,a0.Under.Entry.Len,a0.Under.Entry.Cost,a0.Under.Entry.Label,a0.Told,a0.All,a0.Got,a0.Full,a0.Keys,a0.Keep,a0.Boot,a0.Want,a0.Turn,a0.PeerBoot,a0.PeerTurn,a0.Up,a0.Left))) fun x1 =>
(if (!(a1.Yours == x1.2.2.2.2.2.2.2.2.2.2.2.2.2.2.2.1))=true then
 some (⟨x1.2.1,x1.2.2.1,x1.2.2.2.2.2.2.2.2.2.2.2.2.2.1,x1.2.2.2.2.2.2.2.2.2.2.2.2.2.2.2.1,x1.2.2.2.2.2.2.2.2.2.2.2.2.2.2.2.2.1,x1.2.2.2.2.2.2.2.2.2.2.2.2.2.2.2.2.2.1,x1.2.2.2.2.2.2.2.2.2.2.2.2.2.2.2.2.2.2.1,a1.Turn,(a1.Yours == x1.2.2.2.2.2.2.2.2.2.2.2.2.2.2.2.1),4,x1.2.2.2.1,(⟨x1.2.2.2.2.1,(⟨x1.2.2.2.2.2.1,x1.2.2.2.2.2.2.1,x1.2.2.2.2.2.2.2.1,x1.2.2.2.2.2.2.2.2.1⟩:Qwg)⟩:Qwh),x1.2.2.2.2.2.2.2.2.2.1,x1.2.2.2.2.2.2.2.2.2.2.1,x1.2.2.2.2.2.2.2.2.2.2.2.1,x1.2.2.2.2.2.2.2.2.2.2.2.2.1,x1.1,x1.2.2.2.2.2.2.2.2.2.2.2.2.2.2.1⟩:Qwj)
else
 bd (α:=Int × Int × Int × Int × Int × Int × Int × Int × List Qwg × Bool × Int × Bool × List Qwf × List Qwi × Int × Int × List Qwg × Int × Int × Int × Bool × Int) ((if ((decide (x1.2.2.2.2.1 > 0)) && (a1.Heard == x1.2.2.2.1))=true then
 bd (JL (⟨x1.2.1,x1.2.2.1,x1.2.2.2.2.2.2.2.2.2.2.2.2.2.1,x1.2.2.2.2.2.2.2.2.2.2.2.2.2.2.2.1,x1.2.2.2.2.2.2.2.2.2.2.2.2.2.2.2.2.1,x1.2.2.2.2.2.2.2.2.2.2.2.2.2.2.2.2.2.1,x1.2.2.2.2.2.2.2.2.2.2.2.2.2.2.2.2.2.2.1,a1.Turn,(a1.Yours == x1.2.2.2.2.2.2.2.2.2.2.2.2.2.2.2.1),4,x1.2.2.2.1,(⟨x1.2.2.2.2.1,(⟨x1.2.2.2.2.2.1,x1.2.2.2.2.2.2.1,x1.2.2.2.2.2.2.2.1,x1.2.2.2.2.2.2.2.2.1⟩:Qwg)⟩:Qwh),x1.2.2.2.2.2.2.2.2.2.1,x1.2.2.2.2.2.2.2.2.2.2.1,x1.2.2.2.2.2.2.2.2.2.2.2.1,x1.2.2.2.2.2.2.2.2.2.2.2.2.1,x1.1,x1.2.2.2.2.2.2.2.2.2.2.2.2.2.2.1⟩:Qwj)) fun x8 =>
 some (x8.Name,x8.Peer,x8.Num,x8.Under.Kind,x8.Under.Entry.Addr,x8.Under.Entry.Len,x8.Under.Entry.Cost,x8.Under.Entry.Label,x8.Told,x8.All,x8.Got,x8.Full,x8.Keys,x8.Heard,x8.Keep,x8.Boot,x8.Want,x8.Turn,x8.PeerBoot,x8.PeerTurn,x8.Up,x8.Left)
else
 some (x1.2.1,x1.2.2.1,x1.2.2.2.1,x1.2.2.2.2.1,x1.2.2.2.2.2.1,x1.2.2.2.2.2.2.1,x1.2.2.2.2.2.2.2.1,x1.2.2.2.2.2.2.2.2.1,x1.2.2.2.2.2.2.2.2.2.1,x1.2.2.2.2.2.2.2.2.2.2.1,x1.2.2.2.2.2.2.2.2.2.2.2.1,x1.2.2.2.2.2.2.2.2.2.2.2.2.1,x1.2.2.2.2.2.2.2.2.2.2.2.2.2.1,x1.1,x1.2.2.2.2.2.2.2.2.2.2.2.2.2.2.1,x1.2.2.2.2.2.2.2.2.2.2.2.2.2.2.2.1,x1.2.2.2.2.2.2.2.2.2.2.2.2.2.2.2.2.1,x1.2.2.2.2.2.2.2.2.2.2.2.2.2.2.2.2.2.1,x1.2.2.2.2.2.2.2.2.2.2.2.2.2.2.2.2.2.2.1,a1.Turn,(a1.Yours == x1.2.2.2.2.2.2.2.2.2.2.2.2.2.2.2.1),4))) fun x5 =>
(if ((decide (a1.Change.Kind > 0)) && (a1.Num == (IntKind.i64.wrap (x5.2.2.2.2.2.2.2.2.2.2.1+1))))=true then
 bd (Qaz x5.2.2.2.2.2.2.2.2.2.2.2.2.2.1 a1.Change) fun x9 =>
(if x9.2=true then
 bd (Zw (⟨x5.1,x5.2.1,x5.2.2.2.2.2.2.2.2.2.2.2.2.1,x5.2.2.2.2.2.2.2.2.2.2.2.2.2.2.2.1,x5.2.2.2.2.2.2.2.2.2.2.2.2.2.2.2.2.1,x5.2.2.2.2.2.2.2.2.2.2.2.2.2.2.2.2.2.1,x5.2.2.2.2.2.2.2.2.2.2.2.2.2.2.2.2.2.2.1,x5.2.2.2.2.2.2.2.2.2.2.2.2.2.2.2.2.2.2.2.1,x5.2.2.2.2.2.2.2.2.2.2.2.2.2.2.2.2.2.2.2.2.1,x5.2.2.2.2.2.2.2.2.2.2.2.2.2.2.2.2.2.2.2.2.2,x5.2.2.1,(⟨x5.2.2.2.1,(⟨x5.2.2.2.2.1,x5.2.2.2.2.2.1,x5.2.2.2.2.2.2.1,x5.2.2.2.2.2.2.2.1⟩:Qwg)⟩:Qwh),x5.2.2.2.2.2.2.2.2.1,x5.2.2.2.2.2.2.2.2.2.1,a1.Num,(x5.2.2.2.2.2.2.2.2.2.2.2.1 || (a1.Change.Kind == 3)),x9.1,x5.2.2.2.2.2.2.2.2.2.2.2.2.2.2.1⟩:Qwj)) fun x10 =>
 some x10
else
 bd (Zw (⟨x5.1,x5.2.1,x5.2.2.2.2.2.2.2.2.2.2.2.2.1,x5.2.2.2.2.2.2.2.2.2.2.2.2.2.2.2.1,x5.2.2.2.2.2.2.2.2.2.2.2.2.2.2.2.2.1,x5.2.2.2.2.2.2.2.2.2.2.2.2.2.2.2.2.2.1,x5.2.2.2.2.2.2.2.2.2.2.2.2.2.2.2.2.2.2.1,x5.2.2.2.2.2.2.2.2.2.2.2.2.2.2.2.2.2.2.2.1,x5.2.2.2.2.2.2.2.2.2.2.2.2.2.2.2.2.2.2.2.2.1,x5.2.2.2.2.2.2.2.2.2.2.2.2.2.2.2.2.2.2.2.2.2,x5.2.2.1,(⟨x5.2.2.2.1,(⟨x5.2.2.2.2.1,x5.2.2.2.2.2.1,x5.2.2.2.2.2.2.1,x5.2.2.2.2.2.2.2.1⟩:Qwg)⟩:Qwh),x5.2.2.2.2.2.2.2.2.1,x5.2.2.2.2.2.2.2.2.2.1,x5.2.2.2.2.2.2.2.2.2.2.1,x5.2.2.2.2.2.2.2.2.2.2.2.1,x5.2.2.2.2.2.2.2.2.2.2.2.2.2.1,x5.2.2.2.2.2.2.2.2.2.2.2.2.2.2.1⟩:Qwj)) fun x11 =>
 some x11)
else
 bd (Zw (⟨x5.1,x5.2.1,x5.2.2.2.2.2.2.2.2.2.2.2.2.1,x5.2.2.2.2.2.2.2.2.2.2.2.2.2.2.2.1,x5.2.2.2.2.2.2.2.2.2.2.2.2.2.2.2.2.1,x5.2.2.2.2.2.2.2.2.2.2.2.2.2.2.2.2.2.1,x5.2.2.2.2.2.2.2.2.2.2.2.2.2.2.2.2.2.2.1,x5.2.2.2.2.2.2.2.2.2.2.2.2.2.2.2.2.2.2.2.1,x5.2.2.2.2.2.2.2.2.2.2.2.2.2.2.2.2.2.2.2.2.1,x5.2.2.2.2.2.2.2.2.2.2.2.2.2.2.2.2.2.2.2.2.2,x5.2.2.1,(⟨x5.2.2.2.1,(⟨x5.2.2.2.2.1,x5.2.2.2.2.2.1,x5.2.2.2.2.2.2.1,x5.2.2.2.2.2.2.2.1⟩:Qwg)⟩:Qwh),x5.2.2.2.2.2.2.2.2.1,x5.2.2.2.2.2.2.2.2.2.1,x5.2.2.2.2.2.2.2.2.2.2.1,x5.2.2.2.2.2.2.2.2.2.2.2.1,x5.2.2.2.2.2.2.2.2.2.2.2.2.2.1,x5.2.2.2.2.2.2.2.2.2.2.2.2.2.2.1⟩:Qwj)) fun x12 =>
 some x12))
theorem Qit {a0:Qwj} {a1:Qwl} {r:Qwj} (h:Qa4 a0 a1=some r):EffC Tryz.prog 151 [.agg (heC a0 (.osl 9000 0 a0.Heard.length)),.agg (hwC a1)] [(9000,.arr 96 5 a0.Heard.length (rows Qwi.enc a0.Heard))] (.agg (heC r (.d (slD Qwi.enc r.Heard)))) []:=by
  refine Q7 tOk (fn:=Tryz.f151) (c:=Qj Tryz.f151) rfl rfl ?_;unfold Qa4 at h;(conv=>whnf);obtain ⟨x1,hx1,h⟩:=Qa h;refine JZ tOk (fun s2=>⟨0,81,[(2,.ref 2 0 0),(3,.ref 3 0 0),(4,.ref 4 0 0)],[],[(6001,.arr 96 5 s2.1.length (rows Qwi.enc s2.1)),(4,.box 36 [dI 0,dI 0,.d (.nil),dI 0,.d (.nil),dI 0,dI 0,dI 0,dB false,dI 0,dI 0,dI 0,dI 0,dI 0,dI 0,dI 0,.d (.nil),dB false,dI 0,dB false,.d (.nil),dI 0]),(3,.box 42 (hwC a1)),(2,.box 36 [dI s2.2.1,dI s2.2.2.1,.d (slD Qwf.enc s2.2.2.2.2.2.2.2.2.2.2.2.2.2.1),dI s2.2.2.2.2.2.2.2.2.2.2.2.2.2.2.2.1,.d (slD Qwg.enc s2.2.2.2.2.2.2.2.2.2.2.2.2.2.2.2.2.1),dI s2.2.2.2.2.2.2.2.2.2.2.2.2.2.2.2.2.2.1,dI s2.2.2.2.2.2.2.2.2.2.2.2.2.2.2.2.2.2.2.1,dI s2.2.2.2.2.2.2.2.2.2.2.2.2.2.2.2.2.2.2.2.1,dB s2.2.2.2.2.2.2.2.2.2.2.2.2.2.2.2.2.2.2.2.2.1,dI s2.2.2.2.2.2.2.2.2.2.2.2.2.2.2.2.2.2.2.2.2.2,dI s2.2.2.2.1,dI s2.2.2.2.2.1,dI s2.2.2.2.2.2.1,dI s2.2.2.2.2.2.2.1,dI s2.2.2.2.2.2.2.2.1,dI s2.2.2.2.2.2.2.2.2.1,.d (slD Qwg.enc s2.2.2.2.2.2.2.2.2.2.1),dB s2.2.2.2.2.2.2.2.2.2.2.1,dI s2.2.2.2.2.2.2.2.2.2.2.2.1,dB s2.2.2.2.2.2.2.2.2.2.2.2.2.1,.osl 6001 0 s2.1.length,dI s2.2.2.2.2.2.2.2.2.2.2.2.2.2.2.1])],[⟨[],[]⟩]⟩) (fun s2=>x1=s2) ?_ ?_
  · (conv=>whnf);refine Qz hx1 (fun _ hx1=>?_) (fun _ hx1=>?_)
    · (conv=>whnf);obtain ⟨x4,hx4,hx1⟩:=Qa hx1;refine cE [(9000,9000)] 1000 (Qed hx4) ?_;(conv=>whnf);obtain rfl:=sj_ hx1;exact ⟨_,rfl,leX []⟩
    · (conv=>whnf);obtain rfl:=sj_ hx1;exact ⟨_,rfl,leX [.s [(6001,9000),(9000,6001)]]⟩
  · rintro _ rfl;(conv=>whnf);refine Qc tOk ?_;(conv=>whnf);refine Qz h (fun _ h=>?_) (fun _ h=>?_)
    · (conv=>whnf);obtain rfl:=sj_ h;exact lfE [.f [6001]]
    · (conv=>whnf);obtain ⟨x5,hx5,h⟩:=Qa h;refine JZ tOk (fun s6=>⟨0,81,[(2,.ref 2 0 0),(3,.ref 3 0 0),(4,.ref 4 0 0)],[],[(4,.box 36 [dI 0,dI 0,.d (.nil),dI 0,.d (.nil),dI 0,dI 0,dI 0,dB false,dI 0,dI 0,dI 0,dI 0,dI 0,dI 0,dI 0,.d (.nil),dB false,dI 0,dB false,.d (.nil),dI 0]),(3,.box 42 (hwC a1)),(2,.box 36 [dI s6.1,dI s6.2.1,.d (slD Qwf.enc s6.2.2.2.2.2.2.2.2.2.2.2.2.1),dI s6.2.2.2.2.2.2.2.2.2.2.2.2.2.2.2.1,.d (slD Qwg.enc s6.2.2.2.2.2.2.2.2.2.2.2.2.2.2.2.2.1),dI s6.2.2.2.2.2.2.2.2.2.2.2.2.2.2.2.2.2.1,dI s6.2.2.2.2.2.2.2.2.2.2.2.2.2.2.2.2.2.2.1,dI s6.2.2.2.2.2.2.2.2.2.2.2.2.2.2.2.2.2.2.2.1,dB s6.2.2.2.2.2.2.2.2.2.2.2.2.2.2.2.2.2.2.2.2.1,dI s6.2.2.2.2.2.2.2.2.2.2.2.2.2.2.2.2.2.2.2.2.2,dI s6.2.2.1,dI s6.2.2.2.1,dI s6.2.2.2.2.1,dI s6.2.2.2.2.2.1,dI s6.2.2.2.2.2.2.1,dI s6.2.2.2.2.2.2.2.1,.d (slD Qwg.enc s6.2.2.2.2.2.2.2.2.1),dB s6.2.2.2.2.2.2.2.2.2.1,dI s6.2.2.2.2.2.2.2.2.2.2.1,dB s6.2.2.2.2.2.2.2.2.2.2.2.1,.d (slD Qwi.enc s6.2.2.2.2.2.2.2.2.2.2.2.2.2.1),dI s6.2.2.2.2.2.2.2.2.2.2.2.2.2.2.1])],[⟨[],[]⟩]⟩) (fun s6=>x5=s6) ?_ ?_
      · (conv=>whnf);refine Qz hx5 (fun _ hx5=>?_) (fun _ hx5=>?_)
        · (conv=>whnf);obtain ⟨x8,hx8,hx5⟩:=Qa hx5;refine Qgd [6001] ?_;(conv=>whnf);refine cE [] 1000 (Qg0 hx8) ?_;(conv=>whnf);obtain rfl:=sj_ hx5;exact ⟨_,rfl,leX [.f [6001]]⟩
        · (conv=>whnf);obtain rfl:=sj_ hx5;exact ⟨_,rfl,leX [.f [6001]]⟩
      · rintro _ rfl;(conv=>whnf);refine Qc tOk ?_;(conv=>whnf);refine Qz h (fun _ h=>?_) (fun _ h=>?_)
        · (conv=>whnf);obtain ⟨x9,hx9,h⟩:=Qa h;refine cE [] 0 (Qj6 hx9) ?_;(conv=>whnf);refine Qz h (fun _ h=>?_) (fun _ h=>?_)
          · (conv=>whnf);obtain ⟨x10,hx10,h⟩:=Qa h;refine cE [] 0 (Qee hx10) ?_;(conv=>whnf);obtain rfl:=sj_ h;exact lfE []
          · (conv=>whnf);obtain ⟨x11,hx11,h⟩:=Qa h;refine cE [] 0 (Qee hx11) ?_;(conv=>whnf);obtain rfl:=sj_ h;exact lfE []
        · (conv=>whnf);obtain ⟨x12,hx12,h⟩:=Qa h;refine cE [] 0 (Qee hx12) ?_;(conv=>whnf);obtain rfl:=sj_ h;exact lfE []
noncomputable def Qa5 (a0:Qwj) (a1:Qwl):Option (Qwj) :=
 bd (ZM a0) fun x1 =>
(if (!x1)=true then
 some (⟨0,0,[],0,[],0,0,0,false,0,0,(⟨0,(⟨0,0,0,0⟩:Qwg)⟩:Qwh),[],false,0,false,[],0⟩:Qwj)
else
 bd (Zg a0) fun x2 =>
 bd (gcall ((a0.Boot == 1000)=false) (ZN a0.Keys a1)) fun x3 =>
(if ((((a0.Boot == 1000) || (!x3)) || (a1.From != a0.Peer)) || (a1.To != a0.Name))=true then
 some x2
else
(if ((decide (a1.Boot<a0.PeerBoot)) || ((a1.Boot == a0.PeerBoot) && (decide (a1.Turn≤a0.PeerTurn))))=true then
 some x2
else
 bd (Qa4 x2 a1) fun x4 =>
 bd (Zg x4) fun x5 =>
 some x5)))
theorem Qiu {a0:Qwj} {a1:Qwl} {r:Qwj} (h:Qa5 a0 a1=some r):PureC Tryz.prog 125 [.agg (heC a0 (.d (slD Qwi.enc a0.Heard))),.agg (hwC a1)] (.agg (dI r.Name :: dI r.Peer :: .osl 5001 0 r.Keys.length :: dI r.Boot :: .osl 5002 0 r.Want.length :: dI r.Turn :: dI r.PeerBoot :: dI r.PeerTurn :: dB r.Up :: dI r.Left :: dI r.Num :: dI r.Under.Kind :: hnC r.Under.Entry ++ [.osl 5003 0 r.Told.length,dB r.All,dI r.Got,dB r.Full,.osl 5004 0 r.Heard.length,dI r.Keep])) [⟨5001,93,2,r.Keys.length,rows Qwf.enc r.Keys⟩,⟨5002,31,4,r.Want.length,rows Qwg.enc r.Want⟩,⟨5003,31,4,r.Told.length,rows Qwg.enc r.Told⟩,⟨5004,96,5,r.Heard.length,rows Qwi.enc r.Heard⟩]:=by
  refine Qq tOk (fn:=Tryz.f125) (c:=Qj Tryz.f125) rfl rfl ?_;unfold Qa5 at h;(conv=>whnf);refine Qc tOk ?_;(conv=>whnf);obtain ⟨x1,hx1,h⟩:=Qa h;refine cC 0 (QaI hx1) ?_;clear hx1;(conv=>whnf);refine Qz h (fun _ h=>?_) (fun _ h=>?_)
  · (conv=>whnf);obtain rfl:=sj_ h;exact lfP [.k [2,3],.p 5001 93 2 (rows Qwf.enc ([]:List Qwf)),.p 5002 31 4 (rows Qwg.enc ([]:List Qwg)),.p 5003 31 4 (rows Qwg.enc ([]:List Qwg)),.p 5004 96 5 (rows Qwi.enc ([]:List Qwi))]
  · (conv=>whnf);obtain ⟨x2,hx2,h⟩:=Qa h;refine cC 1000 (Jf hx2) ?_;clear hx2;(conv=>whnf);refine Qc tOk ?_;(conv=>whnf);obtain ⟨x3,hx3,h⟩:=Qa h;refine cG (fun c0=>QaK (Qd hx3 c0)) ?_;(conv=>whnf);refine Qz h (fun _ h=>?_) (fun _ h=>?_)
    · (conv=>whnf);obtain rfl:=sj_ h;exact lfP [.s [(5001,6001),(5002,6002),(5003,6003),(5004,6004),(6001,5001),(6002,5002),(6003,5003),(6004,5004)]]
    · (conv=>whnf);refine Qc tOk ?_;(conv=>whnf);refine Qz h (fun _ h=>?_) (fun _ h=>?_)
      · (conv=>whnf);obtain rfl:=sj_ h;exact lfP [.s [(5001,6001),(5002,6002),(5003,6003),(5004,6004),(6001,5001),(6002,5002),(6003,5003),(6004,5004)]]
      · (conv=>whnf);obtain ⟨x4,hx4,h⟩:=Qa h;refine Qgd [6001,6002,6003] ?_;(conv=>whnf);refine cE [(9000,6004)] 0 (Qit hx4) ?_;(conv=>whnf);obtain ⟨x5,hx5,h⟩:=Qa h;refine cC 2000 (Jf hx5) ?_;clear hx5;(conv=>whnf);obtain rfl:=sj_ h;exact lfP [.s [(5001,7001),(5002,7002),(5003,7003),(5004,7004),(7001,5001),(7002,5002),(7003,5003),(7004,5004)]]
noncomputable def Qad (a0:Qwm) (a1:Int):Option (Qwm) :=
 gd ((0:Int)≤a1∧a1<((a0.Radio.length:Nat):Int)) <|
 gd ((0:Int)≤(0:Int)∧(0:Int)≤a1∧a1≤((a0.Radio.length:Nat):Int)) <|
 gd (((0)+(a1.toNat))*(112+1)≤70368744177664) <|
 gd ((0:Int)≤IntKind.i64.wrap (a1+1)∧IntKind.i64.wrap (a1+1)≤((a0.Radio.length:Nat):Int)∧((a0.Radio.length:Nat):Int)≤((a0.Radio.length:Nat):Int)) <|
 gd ((((a0.Radio.take a1.toNat).length)+((QcL ((a0.Radio.length:Nat):Int) (IntKind.i64.wrap (a1+1)))))*(112+1)≤70368744177664) <|
 bd (lp (σ:=List Qwk × Int) (β:=(Nat × (List Qwk))) (fun s5 =>
(if (decide (s5.2<2))=true then
 gd ((0:Int)≤s5.2∧s5.2<((s5.1.length:Nat):Int)) <|
 gd ((s5.1.getD s5.2.toNat default).Up=true→((0:Int)≤s5.2∧s5.2<((s5.1.length:Nat):Int))) <|
(if ((s5.1.getD s5.2.toNat default).Up && ((((s5.1.getD s5.2.toNat default).End).Name) == ((a0.Radio.getD a1.toNat default).To)))=true then
 gd ((0:Int)≤s5.2∧s5.2<((s5.1.length:Nat):Int)) <|
 bd (Qa5 ({ ((s5.1.getD s5.2.toNat default).End) with Under:=(⟨(((s5.1.getD s5.2.toNat default).End).Under).Kind,((((s5.1.getD s5.2.toNat default).End).Under).Entry)⟩:Qwh) }) ({ (a0.Radio.getD a1.toNat default) with Change:=(⟨((a0.Radio.getD a1.toNat default).Change).Kind,(((a0.Radio.getD a1.toNat default).Change).Entry)⟩:Qwh) })) fun x12 =>
 gd ((0:Int)≤s5.2∧s5.2<((s5.1.length:Nat):Int)) <|
 some (.inl (s5.1.set s5.2.toNat (⟨(s5.1.getD s5.2.toNat default).Up,x12⟩:Qwk),IntKind.i64.wrap (s5.2+1)))
else
 some (.inl (s5.1,IntKind.i64.wrap (s5.2+1))))
else
 some (.inr (s5.1.length,s5.1)))) (a0.Sides,0)) fun x8 =>
 some (⟨x8.2,((a0.Radio.take a1.toNat) ++ (((a0.Radio).take ((IntKind.i64.wrap (a1+1)).toNat+(QcL ((a0.Radio.length:Nat):Int) (IntKind.i64.wrap (a1+1))))).drop ((IntKind.i64.wrap (a1+1)).toNat)))⟩:Qwm)
theorem QiZ {a0:Qwm} {a1:Int} {r:Qwm} (h:Qad a0 a1=some r):EffC Tryz.prog 82 [.agg [.osl 9000 0 a0.Sides.length,.d (slD Qwl.enc a0.Radio)],dI a1] [(9000,.arr 38 23 a0.Sides.length (rows Qwk.enc a0.Sides))] (.agg [.osl 5001 0 r.Sides.length,.osl 5002 0 r.Radio.length]) [(5001,.arr 38 23 r.Sides.length (rows Qwk.enc r.Sides)),(5002,.arr 42 14 r.Radio.length (rows Qwl.enc r.Radio))]:=by
  refine Q7 tOk (fn:=Tryz.f82) (c:=Qj Tryz.f82) rfl rfl ?_;unfold Qad at h;(conv=>whnf);refine gdI h (fun h=>?_);(conv=>whnf);obtain ⟨g2,h⟩:=Qf h;obtain ⟨g3,h⟩:=Qf h;obtain ⟨g4,h⟩:=Qf h;refine QS tOk [] 11 [] [0,0,2,0,14,31,0,64,0,256,960] [2047,4095,8191] ?_;(conv=>whnf);refine And.intro ⟨g2,.inr rfl⟩ ?_;(conv=>whnf);refine And.intro g3 ?_;clear g3;refine QuX (enc:=Qwl.enc) (ys:=a0.Radio.take a1.toNat) ?_;(conv=>whnf);refine And.intro ⟨g4,.inr rfl⟩ ?_;(conv=>whnf);refine And.intro (by kernel_rfl) ?_;(conv=>whnf);refine gdI h (fun h=>?_);refine Qj2 (enc:=Qwl.enc) (xs:=(a0.Radio.take a1.toNat)) (ys:=((a0.Radio).take ((IntKind.i64.wrap (a1+1)).toNat+(QcL ((a0.Radio.length:Nat):Int) (IntKind.i64.wrap (a1+1))))).drop ((IntKind.i64.wrap (a1+1)).toNat)) ?_;(conv=>whnf);refine Qc tOk ?_;(conv=>whnf);obtain ⟨x8,hx8,h⟩:=Qa h;refine Zj tOk hx8 (fun s5=>⟨0,61,[(2,.ref 2 0 0),(4,.ref 4 0 0),(5,.ref 5 0 0),(6,dI s5.2)],[],[(17,.arr 42 14 (((a0.Radio.take a1.toNat) ++ (((a0.Radio).take ((IntKind.i64.wrap (a1+1)).toNat+(QcL ((a0.Radio.length:Nat):Int) (IntKind.i64.wrap (a1+1))))).drop ((IntKind.i64.wrap (a1+1)).toNat))).length) (rows Qwl.enc ((a0.Radio.take a1.toNat) ++ (((a0.Radio).take ((IntKind.i64.wrap (a1+1)).toNat+(QcL ((a0.Radio.length:Nat):Int) (IntKind.i64.wrap (a1+1))))).drop ((IntKind.i64.wrap (a1+1)).toNat))))),(5,.box 42 (hwC (a0.Radio.getD a1.toNat default))),(4,.box 26 [.d (.nil),.d (.nil)]),(2,.box 26 [.osl 9000 0 s5.1.length,.osl 17 0 (((a0.Radio.take a1.toNat) ++ (((a0.Radio).take ((IntKind.i64.wrap (a1+1)).toNat+(QcL ((a0.Radio.length:Nat):Int) (IntKind.i64.wrap (a1+1))))).drop ((IntKind.i64.wrap (a1+1)).toNat))).length)]),(9000,.arr 38 23 s5.1.length (rows Qwk.enc s5.1))],[⟨[],[]⟩]⟩) ?_ ?_
  · exact leX []
  · clear hx8;intro s5 y6 g7 hy6;(conv=>whnf);refine Qc tOk ?_;(conv=>whnf);refine Qz g7 (fun _ g7=>?_) (fun _ g7=>?_)
    · (conv=>whnf);refine Qc tOk ?_;(conv=>whnf);obtain ⟨g9,g7⟩:=Qf g7;obtain ⟨g10,g7⟩:=Qf g7;refine QS tOk [] 18 [] [0,1,0,7,15,31,63,127,255,127,1023,2047,4095,8191,127,16511,65535,131071] [] ?_;(conv=>whnf);refine And.intro g9 ?_;clear g9;(conv=>whnf);refine And.intro g10 ?_;clear g10;(conv=>whnf);refine And.intro (by kernel_rfl) ?_;(conv=>whnf);refine Qz g7 (fun _ g7=>?_) (fun _ g7=>?_)
      · (conv=>whnf);obtain ⟨g11,g7⟩:=Qf g7;obtain ⟨x12,hx12,g7⟩:=Qa g7;obtain ⟨g13,g7⟩:=Qf g7;refine QS tOk [.u 10 1000 (.agg (dI x12.Name :: dI x12.Peer :: .osl 5001 0 x12.Keys.length :: dI x12.Boot :: .osl 5002 0 x12.Want.length :: dI x12.Turn :: dI x12.PeerBoot :: dI x12.PeerTurn :: dB x12.Up :: dI x12.Left :: dI x12.Num :: dI x12.Under.Kind :: hnC x12.Under.Entry ++ [.osl 5003 0 x12.Told.length,dB x12.All,dI x12.Got,dB x12.Full,.osl 5004 0 x12.Heard.length,dI x12.Keep])) [⟨5001,93,2,x12.Keys.length,rows Qwf.enc x12.Keys⟩,⟨5002,31,4,x12.Want.length,rows Qwg.enc x12.Want⟩,⟨5003,31,4,x12.Told.length,rows Qwg.enc x12.Told⟩,⟨5004,96,5,x12.Heard.length,rows Qwi.enc x12.Heard⟩]] 13 [] [0,1,0,0,8,0,56,120,248,0,1016,2047,4095] [8191] ?_;(conv=>whnf);refine And.intro g11 ?_;clear g11;(conv=>whnf);refine And.intro (QM (Qiu hx12) (by kernel_rfl)) ?_;(conv=>whnf);refine And.intro g13 ?_;clear g13;(conv=>whnf);refine And.intro (by kernel_rfl) ?_;(conv=>whnf);refine ⟨rows Qwk.enc (s5.1.set s5.2.toNat (⟨(s5.1.getD s5.2.toNat default).Up,x12⟩:Qwk)),Jg Qm7 rfl,?_⟩;(conv=>whnf);obtain rfl:=sj_ g7;exact ⟨_,rfl,leX []⟩
      · (conv=>whnf);obtain rfl:=sj_ g7;exact ⟨_,rfl,leX []⟩
    · (conv=>whnf);obtain rfl:=sj_ g7;obtain rfl:=hy6 _ rfl;obtain rfl:=sj_ h;exact lfE [.s [(17,5002),(5001,9000),(5002,17),(9000,5001)]]
noncomputable def Jz (a0:Qwm) (a1:Qwl):Option (Qwm) :=
(if (decide (((a0.Radio.length:Nat):Int)<12))=true then
 gd (((a0.Radio.length)+(([a1]:List Qwl).length))*(112+1)≤70368744177664) <|
 some (⟨a0.Sides,(a0.Radio ++ ([a1]:List Qwl))⟩:Qwm)
else
 some a0)
theorem QeG {a0:Qwm} {a1:Qwl} {r:Qwm} (h:Jz a0 a1=some r):EffC Tryz.prog 113 [.agg [.d (slD Qwk.enc a0.Sides),.osl 9000 0 a0.Radio.length],.agg (hwC a1)] [(9000,.arr 42 14 a0.Radio.length (rows Qwl.enc a0.Radio))] (.agg [.d (slD Qwk.enc r.Sides),.osl 5001 0 r.Radio.length]) [(5001,.arr 42 14 r.Radio.length (rows Qwl.enc r.Radio))]:=by
  refine Q7 tOk (fn:=Tryz.f113) (c:=Qj Tryz.f113) rfl rfl ?_;unfold Jz at h;(conv=>whnf);refine Qc tOk ?_;(conv=>whnf);refine Qz h (fun _ h=>?_) (fun _ h=>?_)
  · (conv=>whnf);refine Qj1 (enc:=Qwl.enc) ([a1]:List Qwl) ?_;(conv=>whnf);refine gdI h (fun h=>?_);refine Qj2 (enc:=Qwl.enc) (xs:=a0.Radio) (ys:=([a1]:List Qwl)) ?_;(conv=>whnf);obtain rfl:=sj_ h;exact lfE [.s [(5001,9000),(9000,5001)]]
  · (conv=>whnf);obtain rfl:=sj_ h;exact lfE [.s [(5001,9000),(9000,5001)]]
noncomputable def Qb2 (a0:Qwm) (a1:Qwn):Option (Qwm) :=
 bd (QB a1.At 0 (IntKind.i64.wrap (((a0.Radio.length:Nat):Int) - 1))) fun x1 =>
(if (!x1)=true then
 some a0
else
(if (a1.Kind == 2)=true then
 bd (Qad a0 a1.At) fun x2 =>
 some x2
else
(if (a1.Kind == 3)=true then
 gd ((0:Int)≤a1.At∧a1.At<((a0.Radio.length:Nat):Int)) <|
 bd (Jz a0 ({ (a0.Radio.getD a1.At.toNat default) with Change:=(⟨((a0.Radio.getD a1.At.toNat default).Change).Kind,(((a0.Radio.getD a1.At.toNat default).Change).Entry)⟩:Qwh) })) fun x4 =>
 some x4
else
 gd ((0:Int)≤(0:Int)∧(0:Int)≤a1.At∧a1.At≤((a0.Radio.length:Nat):Int)) <|
 gd (((0)+(a1.At.toNat))*(112+1)≤70368744177664) <|
 gd ((0:Int)≤IntKind.i64.wrap (a1.At+1)∧IntKind.i64.wrap (a1.At+1)≤((a0.Radio.length:Nat):Int)∧((a0.Radio.length:Nat):Int)≤((a0.Radio.length:Nat):Int)) <|
 gd ((((a0.Radio.take a1.At.toNat).length)+((QcL ((a0.Radio.length:Nat):Int) (IntKind.i64.wrap (a1.At+1)))))*(112+1)≤70368744177664) <|
 some (⟨a0.Sides,((a0.Radio.take a1.At.toNat) ++ (((a0.Radio).take ((IntKind.i64.wrap (a1.At+1)).toNat+(QcL ((a0.Radio.length:Nat):Int) (IntKind.i64.wrap (a1.At+1))))).drop ((IntKind.i64.wrap (a1.At+1)).toNat)))⟩:Qwm))))
theorem Qj7 {a0:Qwm} {a1:Qwn} {r:Qwm} (h:Qb2 a0 a1=some r):EffC Tryz.prog 76 [.agg [.osl 9000 0 a0.Sides.length,.osl 9001 0 a0.Radio.length],.agg (dI a1.Kind :: dI a1.At :: .d (slD Qwg.enc a1.Want) :: .d (slD Qwf.enc a1.Keys) :: hwC a1.Word)] [(9000,.arr 38 23 a0.Sides.length (rows Qwk.enc a0.Sides)),(9001,.arr 42 14 a0.Radio.length (rows Qwl.enc a0.Radio))] (.agg [.d (slD Qwk.enc r.Sides),.d (slD Qwl.enc r.Radio)]) []:=by
  refine Q7 tOk (fn:=Tryz.f76) (c:=Qj Tryz.f76) rfl rfl ?_;unfold Qb2 at h;(conv=>whnf);refine Qc tOk ?_;(conv=>whnf);obtain ⟨x1,hx1,h⟩:=Qa h;refine cC 0 (QK hx1) ?_;clear hx1;(conv=>whnf);refine Qz h (fun _ h=>?_) (fun _ h=>?_)
  · (conv=>whnf);obtain rfl:=sj_ h;exact lfE [.f [9000,9001]]
  · (conv=>whnf);refine Qc tOk ?_;(conv=>whnf);refine Qz h (fun _ h=>?_) (fun _ h=>?_)
    · (conv=>whnf);obtain ⟨x2,hx2,h⟩:=Qa h;refine Qgd [9001] ?_;(conv=>whnf);refine cE [(9000,9000)] 1000 (QiZ hx2) ?_;(conv=>whnf);obtain rfl:=sj_ h;exact lfE [.f [6001,6002]]
    · (conv=>whnf);refine Qz h (fun _ h=>?_) (fun _ h=>?_)
      · (conv=>whnf);obtain ⟨g3,h⟩:=Qf h;obtain ⟨x4,hx4,h⟩:=Qa h;refine Qtl [9000] ?_;(conv=>whnf);refine QaG tOk [.l 5 [(9001,.arr 42 14 a0.Radio.length (rows Qwl.enc a0.Radio))] (.ref 9001 a1.At.toNat 0),.l 6 [(9001,.arr 42 14 a0.Radio.length (rows Qwl.enc a0.Radio))] (.agg (hwC (a0.Radio.getD a1.At.toNat default))),.e 7 [(9001,.arr 42 14 a0.Radio.length (rows Qwl.enc a0.Radio))] (.agg [.d (slD Qwk.enc x4.Sides),.osl 6001 0 x4.Radio.length]) [(6001,.arr 42 14 x4.Radio.length (rows Qwl.enc x4.Radio))] []] 8 [] [0,0,2,0,8,30,62,127] [255] [9001] ?_;(conv=>whnf);refine And.intro (by (conv=>whnf); exact ⟨g3,rfl,rfl⟩) ?_;(conv=>whnf);refine And.intro (by (conv=>whnf); exact ⟨rfl,rfl⟩) ?_;(conv=>whnf);refine And.intro (eD [(9000,9001)] 1000 (QeG hx4)) ?_;(conv=>whnf);refine And.intro (by kernel_rfl) ?_;(conv=>whnf);obtain rfl:=sj_ h;exact lfE [.f [6001]]
      · (conv=>whnf);obtain ⟨g5,h⟩:=Qf h;obtain ⟨g6,h⟩:=Qf h;obtain ⟨g7,h⟩:=Qf h;refine QS tOk [] 13 [] [0,0,2,0,8,30,63,0,128,0,512,1536,3968] [8191,16383,32767] ?_;(conv=>whnf);refine And.intro g5 ?_;(conv=>whnf);refine And.intro g6 ?_;clear g6;refine QuX (enc:=Qwl.enc) (ys:=a0.Radio.take a1.At.toNat) ?_;(conv=>whnf);refine And.intro g7 ?_;(conv=>whnf);refine And.intro (by kernel_rfl) ?_;(conv=>whnf);refine gdI h (fun h=>?_);refine Qj2 (enc:=Qwl.enc) (xs:=(a0.Radio.take a1.At.toNat)) (ys:=((a0.Radio).take ((IntKind.i64.wrap (a1.At+1)).toNat+(QcL ((a0.Radio.length:Nat):Int) (IntKind.i64.wrap (a1.At+1))))).drop ((IntKind.i64.wrap (a1.At+1)).toNat)) ?_;(conv=>whnf);obtain rfl:=sj_ h;exact lfE [.f [38,9000]]
noncomputable def Qby (a0:Qwm) (a1:Qwl):Option (Qwm) :=
 bd (Ji a1) fun x1 =>
 gd ((!x1)=false→((0:Int)≤0∧0<((a0.Sides.length:Nat):Int))) <|
 bd (gcall ((!x1)=false) (ZN (((a0.Sides.getD 0 default).End).Keys) a1)) fun x3 =>
 gd (((!x1) || x3)=false→((0:Int)≤1∧1<((a0.Sides.length:Nat):Int))) <|
 bd (gcall (((!x1) || x3)=false) (ZN (((a0.Sides.getD 1 default).End).Keys) a1)) fun x5 =>
(if (((!x1) || x3) || x5)=true then
 some a0
else
 bd (Jz a0 a1) fun x6 =>
 some x6)
theorem Qi0 {a0:Qwm} {a1:Qwl} {r:Qwm} (h:Qby a0 a1=some r):EffC Tryz.prog 77 [.agg [.d (slD Qwk.enc a0.Sides),.osl 9000 0 a0.Radio.length],.agg (hwC a1)] [(9000,.arr 42 14 a0.Radio.length (rows Qwl.enc a0.Radio))] (.agg [.d (slD Qwk.enc r.Sides),.d (slD Qwl.enc r.Radio)]) []:=by
  refine Q7 tOk (fn:=Tryz.f77) (c:=Qj Tryz.f77) rfl rfl ?_;unfold Qby at h;(conv=>whnf);refine Qc tOk ?_;(conv=>whnf);obtain ⟨x1,hx1,h⟩:=Qa h;obtain ⟨g2,h⟩:=Qf h;obtain ⟨x3,hx3,h⟩:=Qa h;obtain ⟨g4,h⟩:=Qf h;obtain ⟨x5,hx5,h⟩:=Qa h;refine QS tOk [.u 1 0 (dB x1) [],.u 11 0 (dB x3) [],.u 21 0 (dB x5) []] 23 [] [0,1,3,7,15,31,63,127,255,511,15,2047,4095,8191,16383,32767,65535,131071,262143,524287,16383,2097151,4194303] [] ?_;(conv=>whnf);refine And.intro (QM (Qcr hx1) (by kernel_rfl)) ?_;(conv=>whnf);refine And.intro g2 ?_;clear g2;(conv=>whnf);refine And.intro (Q1 rfl rfl rfl rfl (by intro c0; exact QaK (Qd hx3 c0))) ?_;(conv=>whnf);refine And.intro g4 ?_;clear g4;(conv=>whnf);refine And.intro (Q1 rfl rfl rfl rfl (by intro c0; exact QaK (Qd hx5 c0))) ?_;(conv=>whnf);refine And.intro (by kernel_rfl) ?_;(conv=>whnf);refine Qz h (fun _ h=>?_) (fun _ h=>?_)
  · (conv=>whnf);obtain rfl:=sj_ h;exact lfE [.f [9000]]
  · (conv=>whnf);obtain ⟨x6,hx6,h⟩:=Qa h;refine cE [(9000,9000)] 1000 (QeG hx6) ?_;(conv=>whnf);obtain rfl:=sj_ h;exact lfE [.f [6001]]
noncomputable def Qbg (a0:Qwj):Option (Qwj) :=
(if (decide (a0.Boot<1000))=true then
 bd (Qay ({ a0 with Boot:=IntKind.i64.wrap (a0.Boot+1),Turn:=0,Left:=0 })) fun x1 =>
 some x1
else
 bd (Qay ({ a0 with Turn:=0,Left:=0 })) fun x2 =>
 some x2)
theorem Qgf {a0:Qwj} {r:Qwj} (h:Qbg a0=some r):EffC Tryz.prog 118 [.agg (heC a0 (.osl 9000 0 a0.Heard.length))] [(9000,.arr 96 5 a0.Heard.length (rows Qwi.enc a0.Heard))] (.agg (heC r (.osl 5001 0 r.Heard.length))) [(5001,.arr 96 5 r.Heard.length (rows Qwi.enc r.Heard))]:=by
  refine Q7 tOk (fn:=Tryz.f118) (c:=Qj Tryz.f118) rfl rfl ?_;unfold Qbg at h;(conv=>whnf);refine Qc tOk ?_;(conv=>whnf);refine Qz h (fun _ h=>?_) (fun _ h=>?_)
  · (conv=>whnf);obtain ⟨x1,hx1,h⟩:=Qa h;refine cE [(9000,9000)] 1000 (Qed hx1) ?_;(conv=>whnf);obtain rfl:=sj_ h;exact lfE [.s [(5001,6001),(6001,5001)]]
  · (conv=>whnf);obtain ⟨x2,hx2,h⟩:=Qa h;refine cE [(9000,9000)] 1000 (Qed hx2) ?_;(conv=>whnf);obtain rfl:=sj_ h;exact lfE [.s [(5001,6001),(6001,5001)]]
noncomputable def Qbz (a0:(List Qwg)) (a1:(List Qwg)):Option (Qwg × Bool) :=
 bd (lp (σ:=Int) (β:=((Int × Int × Int × Int) ⊕ Unit)) (fun s1 =>
(if (decide (s1<((a0.length:Nat):Int)))=true then
 gd ((0:Int)≤s1∧s1<((a0.length:Nat):Int)) <|
 bd (Qbt a1 (a0.getD s1.toNat default)) fun x6 =>
(if (decide (x6<0))=true then
 gd ((0:Int)≤s1∧s1<((a0.length:Nat):Int)) <|
 some (.inr (.inl ((a0.getD s1.toNat default).Addr,(a0.getD s1.toNat default).Len,(a0.getD s1.toNat default).Cost,(a0.getD s1.toNat default).Label)))
else
 some (.inl (IntKind.i64.wrap (s1+1))))
else
 some (.inr (.inr ())))) 0) fun x4 =>
(match x4 with
| .inl d8 =>
 some ((⟨d8.1,d8.2.1,d8.2.2.1,d8.2.2.2⟩:Qwg),true)
| .inr d9 =>
 some ((⟨0,0,0,0⟩:Qwg),false))
theorem Qi1 {a0:(List Qwg)} {a1:(List Qwg)} {r:Qwg × Bool} (h:Qbz a0 a1=some r):PureC Tryz.prog 159 [.d (slD Qwg.enc a0),.d (slD Qwg.enc a1)] (.tup [.agg (hnC r.1),dB r.2]) []:=by
  refine Qq tOk (fn:=Tryz.f159) (c:=Qj Tryz.f159) rfl rfl ?_;unfold Qbz at h;(conv=>whnf);refine Qc tOk ?_;(conv=>whnf);obtain ⟨x4,hx4,h⟩:=Qa h;refine Zj tOk hx4 (fun s1=>⟨0,25,[(0,.d (slD Qwg.enc a0)),(1,.d (slD Qwg.enc a1)),(4,.ref 4 0 0),(6,dI s1)],[],[(4,.box 31 [dI 0,dI 0,dI 0,dI 0])],[]⟩) ?_ ?_
  · exact leX []
  · clear hx4;intro s1 y2 g3 hy2;(conv=>whnf);refine Qc tOk ?_;(conv=>whnf);refine Qz g3 (fun _ g3=>?_) (fun _ g3=>?_)
    · (conv=>whnf);refine Qc tOk ?_;(conv=>whnf);refine gdI g3 (fun g3=>?_);(conv=>whnf);obtain ⟨x6,hx6,g3⟩:=Qa g3;refine cC 0 (Qfl hx6) ?_;clear hx6;(conv=>whnf);refine Qz g3 (fun _ g3=>?_) (fun _ g3=>?_)
      · (conv=>whnf);refine gdI g3 (fun g3=>?_);(conv=>whnf);obtain rfl:=sj_ g3;obtain rfl:=hy2 _ rfl;obtain rfl:=sj_ h;exact lfP []
      · (conv=>whnf);obtain rfl:=sj_ g3;exact ⟨_,rfl,leX []⟩
    · (conv=>whnf);obtain rfl:=sj_ g3;obtain rfl:=hy2 _ rfl;obtain rfl:=sj_ h;exact lfP []
noncomputable def QbA (a0:(List Qwg)) (a1:(List Qwg)):Option (Qwg × Bool) :=
 bd (lp (σ:=Int) (β:=((Int × Int × Int × Int) ⊕ Unit)) (fun s1 =>
(if (decide (s1<((a0.length:Nat):Int)))=true then
 gd ((0:Int)≤s1∧s1<((a0.length:Nat):Int)) <|
 bd (Qbt a1 (a0.getD s1.toNat default)) fun x6 =>
 gd ((decide (x6<0))=false→((0:Int)≤x6∧x6<((a1.length:Nat):Int))) <|
 gd ((decide (x6<0))=false→((0:Int)≤s1∧s1<((a0.length:Nat):Int))) <|
(if ((decide (x6<0)) || (!((((a1.getD x6.toNat default).Addr) == ((a0.getD s1.toNat default).Addr)) && ((((a1.getD x6.toNat default).Len) == ((a0.getD s1.toNat default).Len)) && ((((a1.getD x6.toNat default).Cost) == ((a0.getD s1.toNat default).Cost)) && ((((a1.getD x6.toNat default).Label) == ((a0.getD s1.toNat default).Label)) && true))))))=true then
 gd ((0:Int)≤s1∧s1<((a0.length:Nat):Int)) <|
 some (.inr (.inl ((a0.getD s1.toNat default).Addr,(a0.getD s1.toNat default).Len,(a0.getD s1.toNat default).Cost,(a0.getD s1.toNat default).Label)))
else
 some (.inl (IntKind.i64.wrap (s1+1))))
else
 some (.inr (.inr ())))) 0) fun x4 =>
(match x4 with
| .inl d10 =>
 some ((⟨d10.1,d10.2.1,d10.2.2.1,d10.2.2.2⟩:Qwg),true)
| .inr d11 =>
 some ((⟨0,0,0,0⟩:Qwg),false))
theorem Qi2 {a0:(List Qwg)} {a1:(List Qwg)} {r:Qwg × Bool} (h:QbA a0 a1=some r):PureC Tryz.prog 160 [.d (slD Qwg.enc a0),.d (slD Qwg.enc a1)] (.tup [.agg (hnC r.1),dB r.2]) []:=by
  refine Qq tOk (fn:=Tryz.f160) (c:=Qj Tryz.f160) rfl rfl ?_;unfold QbA at h;(conv=>whnf);refine Qc tOk ?_;(conv=>whnf);obtain ⟨x4,hx4,h⟩:=Qa h;refine Zj tOk hx4 (fun s1=>⟨0,38,[(0,.d (slD Qwg.enc a0)),(1,.d (slD Qwg.enc a1)),(4,.ref 4 0 0),(6,dI s1)],[],[(4,.box 31 [dI 0,dI 0,dI 0,dI 0])],[]⟩) ?_ ?_
  · exact leX []
  · clear hx4;intro s1 y2 g3 hy2;(conv=>whnf);refine Qc tOk ?_;(conv=>whnf);refine Qz g3 (fun _ g3=>?_) (fun _ g3=>?_)
    · (conv=>whnf);refine Qc tOk ?_;(conv=>whnf);refine gdI g3 (fun g3=>?_);(conv=>whnf);obtain ⟨x6,hx6,g3⟩:=Qa g3;refine cC 0 (Qfl hx6) ?_;clear hx6;(conv=>whnf);obtain ⟨g7,g3⟩:=Qf g3;obtain ⟨g8,g3⟩:=Qf g3;refine QS tOk [] 13 [] [0,1,3,7,7,31,63,7,7,391,903,2047,4095] [] ?_;(conv=>whnf);refine And.intro g7 ?_;clear g7;(conv=>whnf);refine And.intro g8 ?_;clear g8;(conv=>whnf);refine And.intro (by kernel_rfl) ?_;(conv=>whnf);refine Qz g3 (fun _ g3=>?_) (fun _ g3=>?_)
      · (conv=>whnf);refine gdI g3 (fun g3=>?_);(conv=>whnf);obtain rfl:=sj_ g3;obtain rfl:=hy2 _ rfl;obtain rfl:=sj_ h;exact lfP []
      · (conv=>whnf);obtain rfl:=sj_ g3;exact ⟨_,rfl,leX []⟩
    · (conv=>whnf);obtain rfl:=sj_ g3;obtain rfl:=hy2 _ rfl;obtain rfl:=sj_ h;exact lfP []
noncomputable def QaA (a0:Qwj):Option (Qwh) :=
 bd (Qbz a0.Told a0.Want) fun x1 =>
(if x1.2=true then
 some (⟨2,{ x1.1 with Cost:=0,Label:=0 }⟩:Qwh)
else
 bd (QbA a0.Want a0.Told) fun x2 =>
(if x2.2=true then
 some (⟨1,x2.1⟩:Qwh)
else
(if (!a0.All)=true then
 some (⟨3,(⟨0,0,0,0⟩:Qwg)⟩:Qwh)
else
 some (⟨0,(⟨0,0,0,0⟩:Qwg)⟩:Qwh))))
theorem Qj8 {a0:Qwj} {r:Qwh} (h:QaA a0=some r):PureC Tryz.prog 145 [.agg (heC a0 (.d (slD Qwi.enc a0.Heard)))] (.agg (dI r.Kind :: hnC r.Entry)) []:=by
  refine Qq tOk (fn:=Tryz.f145) (c:=Qj Tryz.f145) rfl rfl ?_;unfold QaA at h;(conv=>whnf);obtain ⟨x1,hx1,h⟩:=Qa h;refine cC 0 (Qi1 hx1) ?_;clear hx1;(conv=>whnf);refine Qc tOk ?_;(conv=>whnf);refine Qz h (fun _ h=>?_) (fun _ h=>?_)
  · (conv=>whnf);obtain rfl:=sj_ h;exact lfP []
  · (conv=>whnf);obtain ⟨x2,hx2,h⟩:=Qa h;refine cC 0 (Qi2 hx2) ?_;clear hx2;(conv=>whnf);refine Qc tOk ?_;(conv=>whnf);refine Qz h (fun _ h=>?_) (fun _ h=>?_)
    · (conv=>whnf);obtain rfl:=sj_ h;exact lfP []
    · (conv=>whnf);refine Qc tOk ?_;(conv=>whnf);refine Qz h (fun _ h=>?_) (fun _ h=>?_)
      · (conv=>whnf);obtain rfl:=sj_ h;exact lfP []
      · (conv=>whnf);obtain rfl:=sj_ h;exact lfP []
noncomputable def Qae (a0:Qwj):Option (Qwj × Qwl × Bool) :=
 bd (ZM a0) fun x1 =>
(if (!x1)=true then
 some ((⟨0,0,[],0,[],0,0,0,false,0,0,(⟨0,(⟨0,0,0,0⟩:Qwg)⟩:Qwh),[],false,0,false,[],0⟩:Qwj),(⟨0,0,0,0,0,0,0,0,(⟨0,(⟨0,0,0,0⟩:Qwg)⟩:Qwh),0⟩:Qwl),false)
else
 bd (Zg a0) fun x2 =>
(if (x2.Boot == 1000)=true then
 some (x2,(⟨0,0,0,0,0,0,0,0,(⟨0,(⟨0,0,0,0⟩:Qwg)⟩:Qwh),0⟩:Qwl),false)
else
(if (x2.Turn == 1000000)=true then
 bd (Qbg x2) fun x3 =>
 bd (Zg x3) fun x4 =>
 some (x4,(⟨0,0,0,0,0,0,0,0,(⟨0,(⟨0,0,0,0⟩:Qwg)⟩:Qwh),0⟩:Qwl),false)
else
 bd (α:=Int × Int × Int × Int × Int × Int) ((if (x2.Up && (x2.Under.Kind == 0))=true then
 bd (QaA ({ x2 with Turn:=IntKind.i64.wrap (x2.Turn+1) })) fun x8 =>
(if (decide (x8.Kind > 0))=true then
 some (IntKind.i64.wrap (x2.Num+1),x8.Kind,x8.Entry.Addr,x8.Entry.Len,x8.Entry.Cost,x8.Entry.Label)
else
 some (x2.Num,x8.Kind,x8.Entry.Addr,x8.Entry.Len,x8.Entry.Cost,x8.Entry.Label))
else
 some (x2.Num,x2.Under.Kind,x2.Under.Entry.Addr,x2.Under.Entry.Len,x2.Under.Entry.Cost,x2.Under.Entry.Label))) fun x5 =>
 gd ((0:Int)≤IntKind.i64.wrap (((x2.Keys.length:Nat):Int) - 1)∧IntKind.i64.wrap (((x2.Keys.length:Nat):Int) - 1)<((x2.Keys.length:Nat):Int)) <|
 bd (Qab ((x2.Keys.getD ((IntKind.i64.wrap (((x2.Keys.length:Nat):Int) - 1)).toNat) default).Secret) (⟨x2.Name,x2.Peer,(x2.Keys.getD ((IntKind.i64.wrap (((x2.Keys.length:Nat):Int) - 1)).toNat) default).Id,x2.Boot,x2.PeerBoot,IntKind.i64.wrap (x2.Turn+1),x5.1,x2.Got,(⟨x5.2.1,(⟨x5.2.2.1,x5.2.2.2.1,x5.2.2.2.2.1,x5.2.2.2.2.2⟩:Qwg)⟩:Qwh),0⟩:Qwl)) fun x10 =>
 some ({ x2 with Turn:=IntKind.i64.wrap (x2.Turn+1),Num:=x5.1,Under:=(⟨x5.2.1,(⟨x5.2.2.1,x5.2.2.2.1,x5.2.2.2.2.1,x5.2.2.2.2.2⟩:Qwg)⟩:Qwh) },(⟨x2.Name,x2.Peer,(x2.Keys.getD ((IntKind.i64.wrap (((x2.Keys.length:Nat):Int) - 1)).toNat) default).Id,x2.Boot,x2.PeerBoot,IntKind.i64.wrap (x2.Turn+1),x5.1,x2.Got,(⟨x5.2.1,(⟨x5.2.2.1,x5.2.2.2.1,x5.2.2.2.2.1,x5.2.2.2.2.2⟩:Qwg)⟩:Qwh),x10⟩:Qwl),true))))
theorem Qi3 {a0:Qwj} {r:Qwj × Qwl × Bool} (h:Qae a0=some r):PureC Tryz.prog 115 [.agg (heC a0 (.d (slD Qwi.enc a0.Heard)))] (.tup [.agg (dI r.1.Name :: dI r.1.Peer :: .osl 5001 0 r.1.Keys.length :: dI r.1.Boot :: .osl 5002 0 r.1.Want.length :: dI r.1.Turn :: dI r.1.PeerBoot :: dI r.1.PeerTurn :: dB r.1.Up :: dI r.1.Left :: dI r.1.Num :: dI r.1.Under.Kind :: hnC r.1.Under.Entry ++ [.osl 5003 0 r.1.Told.length,dB r.1.All,dI r.1.Got,dB r.1.Full,.osl 5004 0 r.1.Heard.length,dI r.1.Keep]),.agg (hwC r.2.1),dB r.2.2]) [⟨5001,93,2,r.1.Keys.length,rows Qwf.enc r.1.Keys⟩,⟨5002,31,4,r.1.Want.length,rows Qwg.enc r.1.Want⟩,⟨5003,31,4,r.1.Told.length,rows Qwg.enc r.1.Told⟩,⟨5004,96,5,r.1.Heard.length,rows Qwi.enc r.1.Heard⟩]:=by
  refine Qq tOk (fn:=Tryz.f115) (c:=Qj Tryz.f115) rfl rfl ?_;unfold Qae at h;(conv=>whnf);refine Qc tOk ?_;(conv=>whnf);obtain ⟨x1,hx1,h⟩:=Qa h;refine cC 0 (QaI hx1) ?_;clear hx1;(conv=>whnf);refine Qz h (fun _ h=>?_) (fun _ h=>?_)
  · (conv=>whnf);obtain rfl:=sj_ h;exact lfP [.k [1],.p 5001 93 2 (rows Qwf.enc ([]:List Qwf)),.p 5002 31 4 (rows Qwg.enc ([]:List Qwg)),.p 5003 31 4 (rows Qwg.enc ([]:List Qwg)),.p 5004 96 5 (rows Qwi.enc ([]:List Qwi))]
  · (conv=>whnf);obtain ⟨x2,hx2,h⟩:=Qa h;refine cC 1000 (Jf hx2) ?_;clear hx2;(conv=>whnf);refine Qc tOk ?_;(conv=>whnf);refine Qz h (fun _ h=>?_) (fun _ h=>?_)
    · (conv=>whnf);obtain rfl:=sj_ h;exact lfP [.s [(5001,6001),(5002,6002),(5003,6003),(5004,6004),(6001,5001),(6002,5002),(6003,5003),(6004,5004)]]
    · (conv=>whnf);refine Qc tOk ?_;(conv=>whnf);refine Qz h (fun _ h=>?_) (fun _ h=>?_)
      · (conv=>whnf);obtain ⟨x3,hx3,h⟩:=Qa h;refine Qgd [6001,6002,6003] ?_;(conv=>whnf);refine cE [(9000,6004)] 1000 (Qgf hx3) ?_;(conv=>whnf);obtain ⟨x4,hx4,h⟩:=Qa h;refine cC 2000 (Jf hx4) ?_;clear hx4;(conv=>whnf);obtain rfl:=sj_ h;exact lfP [.s [(5001,7001),(5002,7002),(5003,7003),(5004,7004),(7001,5001),(7002,5002),(7003,5003),(7004,5004)]]
      · (conv=>whnf);obtain ⟨x5,hx5,h⟩:=Qa h;refine JZ tOk (fun s6=>⟨0,84,[(2,.ref 2 0 0),(3,.ref 3 0 0),(5,.ref 5 0 0)],[],[(5,.box 36 [dI x2.Name,dI x2.Peer,.osl 6001 0 x2.Keys.length,dI x2.Boot,.osl 6002 0 x2.Want.length,dI (IntKind.i64.wrap (x2.Turn+1)),dI x2.PeerBoot,dI x2.PeerTurn,dB x2.Up,dI x2.Left,dI s6.1,dI s6.2.1,dI s6.2.2.1,dI s6.2.2.2.1,dI s6.2.2.2.2.1,dI s6.2.2.2.2.2,.osl 6003 0 x2.Told.length,dB x2.All,dI x2.Got,dB x2.Full,.osl 6004 0 x2.Heard.length,dI x2.Keep]),(6004,.arr 96 5 x2.Heard.length (rows Qwi.enc x2.Heard)),(6003,.arr 31 4 x2.Told.length (rows Qwg.enc x2.Told)),(6002,.arr 31 4 x2.Want.length (rows Qwg.enc x2.Want)),(6001,.arr 93 2 x2.Keys.length (rows Qwf.enc x2.Keys)),(3,.box 42 [dI 0,dI 0,dI 0,dI 0,dI 0,dI 0,dI 0,dI 0,dI 0,dI 0,dI 0,dI 0,dI 0,dI 0]),(2,.box 36 [dI 0,dI 0,.d (.nil),dI 0,.d (.nil),dI 0,dI 0,dI 0,dB false,dI 0,dI 0,dI 0,dI 0,dI 0,dI 0,dI 0,.d (.nil),dB false,dI 0,dB false,.d (.nil),dI 0])],[]⟩) (fun s6=>x5=s6) ?_ ?_
        · (conv=>whnf);refine Qz hx5 (fun _ hx5=>?_) (fun _ hx5=>?_)
          · (conv=>whnf);obtain ⟨x8,hx8,hx5⟩:=Qa hx5;refine cC 0 (Qj8 hx8) ?_;clear hx8;(conv=>whnf);refine Qz hx5 (fun _ hx5=>?_) (fun _ hx5=>?_)
            · (conv=>whnf);obtain rfl:=sj_ hx5;exact ⟨_,rfl,leX []⟩
            · (conv=>whnf);obtain rfl:=sj_ hx5;exact ⟨_,rfl,leX []⟩
          · (conv=>whnf);obtain rfl:=sj_ hx5;exact ⟨_,rfl,leX []⟩
        · rintro _ rfl;(conv=>whnf);refine gdI h (fun h=>?_);(conv=>whnf);obtain ⟨x10,hx10,h⟩:=Qa h;refine cC 0 (QdK hx10) ?_;clear hx10;(conv=>whnf);refine QaG tOk [.a 2 [(2,.box 36 [dI 0,dI 0,.d (.nil),dI 0,.d (.nil),dI 0,dI 0,dI 0,dB false,dI 0,dI 0,dI 0,dI 0,dI 0,dI 0,dI 0,.d (.nil),dB false,dI 0,dB false,.d (.nil),dI 0])] (.any) [(2,.box 36 [dI x2.Name,dI x2.Peer,.osl 6001 0 x2.Keys.length,dI x2.Boot,.osl 6002 0 x2.Want.length,dI (IntKind.i64.wrap (x2.Turn+1)),dI x2.PeerBoot,dI x2.PeerTurn,dB x2.Up,dI x2.Left,dI x5.1,dI x5.2.1,dI x5.2.2.1,dI x5.2.2.2.1,dI x5.2.2.2.2.1,dI x5.2.2.2.2.2,.osl 6003 0 x2.Told.length,dB x2.All,dI x2.Got,dB x2.Full,.osl 6004 0 x2.Heard.length,dI x2.Keep])],.a 3 [(3,.box 42 [dI 0,dI 0,dI 0,dI 0,dI 0,dI 0,dI 0,dI 0,dI 0,dI 0,dI 0,dI 0,dI 0,dI 0])] (.any) [(3,.box 42 [dI x2.Name,dI x2.Peer,dI ((x2.Keys.getD ((IntKind.i64.wrap (((x2.Keys.length:Nat):Int) - 1)).toNat) default).Id),dI x2.Boot,dI x2.PeerBoot,dI (IntKind.i64.wrap (x2.Turn+1)),dI x5.1,dI x2.Got,dI x5.2.1,dI x5.2.2.1,dI x5.2.2.2.1,dI x5.2.2.2.2.1,dI x5.2.2.2.2.2,dI x10])]] 5 [] [0,0,1,7,15] [] [2,3] ?_;(conv=>whnf);refine And.intro (by (conv=>whnf); exact ⟨rfl,rfl⟩) ?_;(conv=>whnf);refine And.intro (by (conv=>whnf); exact ⟨rfl,rfl⟩) ?_;(conv=>whnf);refine And.intro (by kernel_rfl) ?_;(conv=>whnf);obtain rfl:=sj_ h;exact lfP [.s [(5001,6001),(5002,6002),(5003,6003),(5004,6004),(6001,5001),(6002,5002),(6003,5003),(6004,5004)]]
noncomputable def Qa6 (a0:Qwj):Option (Qwj) :=
 bd (ZM a0) fun x1 =>
(if (!x1)=true then
 some (⟨0,0,[],0,[],0,0,0,false,0,0,(⟨0,(⟨0,0,0,0⟩:Qwg)⟩:Qwh),[],false,0,false,[],0⟩:Qwj)
else
 bd (Zg a0) fun x2 =>
 bd (α:=List Qwi × Int) ((if (decide (x2.Keep > 0))=true then
(if ((IntKind.i64.wrap (x2.Keep - 1)) == 0)=true then
 bd (QaM x2.Heard) fun x6 =>
 some (x6,IntKind.i64.wrap (x2.Keep - 1))
else
 some (x2.Heard,IntKind.i64.wrap (x2.Keep - 1)))
else
 some (x2.Heard,x2.Keep))) fun x3 =>
(if (decide (x2.Left > 0))=true then
(if ((IntKind.i64.wrap (x2.Left - 1)) == 0)=true then
 bd (Qbg ({ x2 with Left:=IntKind.i64.wrap (x2.Left - 1),Heard:=x3.1,Keep:=x3.2 })) fun x7 =>
 bd (Zg x7) fun x8 =>
 some x8
else
 bd (Zg ({ x2 with Left:=IntKind.i64.wrap (x2.Left - 1),Heard:=x3.1,Keep:=x3.2 })) fun x9 =>
 some x9)
else
 bd (Zg ({ x2 with Heard:=x3.1,Keep:=x3.2 })) fun x10 =>
 some x10))
theorem Qiv {a0:Qwj} {r:Qwj} (h:Qa6 a0=some r):PureC Tryz.prog 116 [.agg (heC a0 (.d (slD Qwi.enc a0.Heard)))] (.agg (dI r.Name :: dI r.Peer :: .osl 5001 0 r.Keys.length :: dI r.Boot :: .osl 5002 0 r.Want.length :: dI r.Turn :: dI r.PeerBoot :: dI r.PeerTurn :: dB r.Up :: dI r.Left :: dI r.Num :: dI r.Under.Kind :: hnC r.Under.Entry ++ [.osl 5003 0 r.Told.length,dB r.All,dI r.Got,dB r.Full,.osl 5004 0 r.Heard.length,dI r.Keep])) [⟨5001,93,2,r.Keys.length,rows Qwf.enc r.Keys⟩,⟨5002,31,4,r.Want.length,rows Qwg.enc r.Want⟩,⟨5003,31,4,r.Told.length,rows Qwg.enc r.Told⟩,⟨5004,96,5,r.Heard.length,rows Qwi.enc r.Heard⟩]:=by
  refine Qq tOk (fn:=Tryz.f116) (c:=Qj Tryz.f116) rfl rfl ?_;unfold Qa6 at h;(conv=>whnf);refine Qc tOk ?_;(conv=>whnf);obtain ⟨x1,hx1,h⟩:=Qa h;refine cC 0 (QaI hx1) ?_;clear hx1;(conv=>whnf);refine Qz h (fun _ h=>?_) (fun _ h=>?_)
  · (conv=>whnf);obtain rfl:=sj_ h;exact lfP [.k [1],.p 5001 93 2 (rows Qwf.enc ([]:List Qwf)),.p 5002 31 4 (rows Qwg.enc ([]:List Qwg)),.p 5003 31 4 (rows Qwg.enc ([]:List Qwg)),.p 5004 96 5 (rows Qwi.enc ([]:List Qwi))]
  · (conv=>whnf);obtain ⟨x2,hx2,h⟩:=Qa h;refine cC 1000 (Jf hx2) ?_;clear hx2;(conv=>whnf);obtain ⟨x3,hx3,h⟩:=Qa h;refine JZ tOk (fun s4=>⟨0,38,[(2,.ref 2 0 0),(3,.ref 3 0 0)],[],[(7001,.arr 96 5 s4.1.length (rows Qwi.enc s4.1)),(3,.box 36 (dI x2.Name :: dI x2.Peer :: .osl 6001 0 x2.Keys.length :: dI x2.Boot :: .osl 6002 0 x2.Want.length :: dI x2.Turn :: dI x2.PeerBoot :: dI x2.PeerTurn :: dB x2.Up :: dI x2.Left :: dI x2.Num :: dI x2.Under.Kind :: hnC x2.Under.Entry ++ [.osl 6003 0 x2.Told.length,dB x2.All,dI x2.Got,dB x2.Full,.osl 7001 0 s4.1.length,dI s4.2])),(6003,.arr 31 4 x2.Told.length (rows Qwg.enc x2.Told)),(6002,.arr 31 4 x2.Want.length (rows Qwg.enc x2.Want)),(6001,.arr 93 2 x2.Keys.length (rows Qwf.enc x2.Keys)),(2,.box 36 [dI 0,dI 0,.d (.nil),dI 0,.d (.nil),dI 0,dI 0,dI 0,dB false,dI 0,dI 0,dI 0,dI 0,dI 0,dI 0,dI 0,.d (.nil),dB false,dI 0,dB false,.d (.nil),dI 0])],[]⟩) (fun s4=>x3=s4) ?_ ?_
    · (conv=>whnf);refine Qz hx3 (fun _ hx3=>?_) (fun _ hx3=>?_)
      · (conv=>whnf);refine Qz hx3 (fun _ hx3=>?_) (fun _ hx3=>?_)
        · (conv=>whnf);obtain ⟨x6,hx6,hx3⟩:=Qa hx3;refine cC 2000 (Qfn hx6) ?_;clear hx6;(conv=>whnf);obtain rfl:=sj_ hx3;exact ⟨_,rfl,leX []⟩
        · (conv=>whnf);obtain rfl:=sj_ hx3;exact ⟨_,rfl,leX [.s [(6004,7001),(7001,6004)]]⟩
      · (conv=>whnf);obtain rfl:=sj_ hx3;exact ⟨_,rfl,leX [.s [(6004,7001),(7001,6004)]]⟩
    · rintro _ rfl;(conv=>whnf);refine Qc tOk ?_;(conv=>whnf);refine Qz h (fun _ h=>?_) (fun _ h=>?_)
      · (conv=>whnf);refine Qz h (fun _ h=>?_) (fun _ h=>?_)
        · (conv=>whnf);obtain ⟨x7,hx7,h⟩:=Qa h;refine Qgd [6001,6002,6003] ?_;(conv=>whnf);refine cE [(9000,7001)] 1000 (Qgf hx7) ?_;(conv=>whnf);obtain ⟨x8,hx8,h⟩:=Qa h;refine cC 3000 (Jf hx8) ?_;clear hx8;(conv=>whnf);obtain rfl:=sj_ h;exact lfP [.s [(5001,8001),(5002,8002),(5003,8003),(5004,8004),(8001,5001),(8002,5002),(8003,5003),(8004,5004)]]
        · (conv=>whnf);obtain ⟨x9,hx9,h⟩:=Qa h;refine cC 3000 (Jf hx9) ?_;clear hx9;(conv=>whnf);obtain rfl:=sj_ h;exact lfP [.s [(5001,8001),(5002,8002),(5003,8003),(5004,8004),(8001,5001),(8002,5002),(8003,5003),(8004,5004)]]
      · (conv=>whnf);obtain ⟨x10,hx10,h⟩:=Qa h;refine cC 3000 (Jf hx10) ?_;clear hx10;(conv=>whnf);obtain rfl:=sj_ h;exact lfP [.s [(5001,8001),(5002,8002),(5003,8003),(5004,8004),(8001,5001),(8002,5002),(8003,5003),(8004,5004)]]
noncomputable def QcX (a0:Qwj):Option (Qwj) :=
 bd (Zg ({ a0 with Turn:=0,PeerBoot:=0,PeerTurn:=0,Up:=false,Left:=0,Num:=0,Under:=(⟨0,(⟨0,0,0,0⟩:Qwg)⟩:Qwh),Told:=[],All:=false,Got:=0,Full:=false,Heard:=[],Keep:=0 })) fun x1 =>
 some x1
theorem Qj9 {a0:Qwj} {r:Qwj} (h:QcX a0=some r):PureC Tryz.prog 117 [.agg (heC a0 (.d (slD Qwi.enc a0.Heard)))] (.agg (dI r.Name :: dI r.Peer :: .osl 5001 0 r.Keys.length :: dI r.Boot :: .osl 5002 0 r.Want.length :: dI r.Turn :: dI r.PeerBoot :: dI r.PeerTurn :: dB r.Up :: dI r.Left :: dI r.Num :: dI r.Under.Kind :: hnC r.Under.Entry ++ [.osl 5003 0 r.Told.length,dB r.All,dI r.Got,dB r.Full,.osl 5004 0 r.Heard.length,dI r.Keep])) [⟨5001,93,2,r.Keys.length,rows Qwf.enc r.Keys⟩,⟨5002,31,4,r.Want.length,rows Qwg.enc r.Want⟩,⟨5003,31,4,r.Told.length,rows Qwg.enc r.Told⟩,⟨5004,96,5,r.Heard.length,rows Qwi.enc r.Heard⟩]:=by
  refine Qq tOk (fn:=Tryz.f117) (c:=Qj Tryz.f117) rfl rfl ?_;unfold QcX at h;(conv=>whnf);obtain ⟨x1,hx1,h⟩:=Qa h;refine QtR 1000 (Jf hx1) rfl Qpj rfl ?_;(conv=>whnf);obtain rfl:=sj_ h;exact lfP [.s [(5001,6001),(5002,6002),(5003,6003),(5004,6004),(6001,5001),(6002,5002),(6003,5003),(6004,5004)]]
end Go.Proofs.YtjgjdobkahdgfaaGreat
