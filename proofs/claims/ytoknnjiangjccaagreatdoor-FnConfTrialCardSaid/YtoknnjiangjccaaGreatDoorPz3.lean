/-
  Plain Lean: what the models of functions compute; no condition.
-/
import Derived.Test.YtoknnjiangjccaaGreatDoorKz6
import Derived.Test.YtoknnjiangjccaaGreatDoorPz2
import Derived.Test.YtoknnjiangjccaaGreatDoorPz1
set_option linter.all false
namespace Go.Proofs.YtoknnjiangjccaaGreatDoor
open Go Go.Ab
set_option maxHeartbeats 4000000
set_option maxRecDepth 100000
theorem QfL {α:Type} [Inhabited α] {p:α->Bool} {xs:List α}:xs.findIdx? p=ZQ (fun i=>p (xs.getD i default)) xs.length:=by
 have G:∀i (h:i<xs.length),xs.getD i default=xs[i]:=fun i h=>by simp[Y1,h]
 cases h:ZQ (fun i=>p (xs.getD i default)) xs.length with
 |none=>
  refine List.findIdx?_eq_none_iff.2 fun x I=>?_;have⟨i,hi,e⟩:=Xn I;have:=Qcg h i hi;rw[G i hi,e] at this;exact this
 |some i=>
  have⟨h1,h2,h3⟩:=Qcf h;refine List.findIdx?_eq_some_iff_getElem.2 ⟨h1,by rw[<-G i h1];exact h2,fun j hj=>?_⟩;have:=h3 j hj;rw[G j (by omega)] at this;rw[this];decide
theorem QiH {α:Type} {p:α->Bool} {xs:List α} (h:∀x∈xs,p x=true):xs.filter p=xs:=List.filter_eq_self.2 h
theorem Qn7 {α:Type} {p:α->Bool} {xs:List α} (h:∀x∈xs,p x=false):xs.filter p=[]:=List.filter_eq_nil_iff.2 fun x G=>by rw[h x G];decide
theorem Qm3 {A B:List QAr} {c:QAr} (I:∀x∈A,bsl x.User c.User=true) (hB:∀x∈B,bsl c.User x.User=true):QfV (A++B) c=A++c::B:=by
 unfold QfV;rw[Xb,Xb,QiH I,Qn7 fun x G=>QeG (hB x G),Qn7 fun x G=>QeG (I x G),QiH hB];simp
theorem Qv2 {A B:List QAr} {c m:QAr} (hm:m.User=c.User) (I:∀x∈A,bsl x.User c.User=true) (hB:∀x∈B,bsl c.User x.User=true):QfV (A++m::B) c=A++c::B:=by
 unfold QfV;rw[Xb,Xb,YW,YW,hm,QgK,QiH I,Qn7 fun x G=>QeG (hB x G),Qn7 fun x G=>QeG (I x G),QiH hB];simp
theorem Qyf {cs:List QAr} {c:QAr} {k:Nat} (J:cs.Pairwise fun x y=>bsl x.User y.User=true) (hk:k<cs.length) (G:(cs.getD k default).User=c.User):cs.set k c=QfV cs c:=by
 have e:cs.getD k default=cs[k]:=by simp[Y1,hk]
 rw[e] at G;have hs:cs=cs.take k++cs[k]::cs.drop (k+1):=by simp
 have hp:=J;rw[hs,XE,YS] at hp;have⟨_,⟨h2,_⟩,h3⟩:=hp;rw[List.set_eq_take_append_cons_drop,Y2 hk]
 conv=>rhs;rw[hs]
 exact(Qv2 G (fun x I=>by rw[<-G];exact h3 x I _ (List.mem_cons_self ..)) (fun x I=>by rw[<-G];exact h2 x I)).symm
theorem Qyg {cs:List QAr} {c:QAr} (I:cs.Pairwise fun x y=>bsl x.User y.User=true) (J:∀x∈cs,x.User≠c.User):QyO (fun x y=>bsl x.User y.User) cs c=QfV cs c:=by
 unfold QyO;have Y:∀x∈cs.dropWhile (fun x=>bsl x.User c.User),bsl c.User x.User=true:=by
  induction cs with
  |nil=>intro x G;cases G
  |cons y r U=>
   rw[YS] at I;rw[List.dropWhile_cons];split
   ·exact U I.2 fun x G=>J x (Yp _ G)
   ·rename_i O;have h1:bsl c.User y.User=true:=by
     cases e:bsl c.User y.User
     ·exact absurd (Qn5 (by simpa using O) e) (J y (List.mem_cons_self ..))
     ·rfl
    intro x G;rcases Yh.1 G with rfl|G
    ·exact h1
    ·exact Qfd h1 (I.1 x G)
 have ht:∀x∈cs.takeWhile (fun x=>bsl x.User c.User),bsl x.User c.User=true:=fun x G=>Yb.1 (List.all_takeWhile (p:=fun x:QAr=>bsl x.User c.User) (l:=cs)) x G;have:=Qm3 (c:=c) ht Y;rw[XR] at this;rw[this]
theorem QjK {α:Type} {xs:List α} {p:α->Bool} (hp:xs.Pairwise fun x y=>¬(p x=true∧p y=true)):(match xs.findIdx? p with|some i=>xs.eraseIdx i|none=>xs)=xs.filter fun x=>!p x:=by
 induction xs with
 |nil=>rfl
 |cons x r J=>
  rw[YS] at hp;rw[List.findIdx?_cons,YW]
  cases G:p x
  ·have:=J hp.2;rw[Y0 (by decide)];simp only[XM,YG];rw[<-this]
   cases r.findIdx? p<;>rfl
  ·rw[Y2 rfl];simp only[Y09,Yu,X6,List.eraseIdx_cons_zero];exact(QiH fun y I=>by
    have:=hp.1 y I;rw[G] at this;simpa using this).symm
theorem Qhm {xs:List Bt} (h:nB xs):Q7 xs=some 0:=by
 have:=Qt4 (ls:=xs.map tB) h.short' (by rw[Ya];have:=h.len;omega);rwa[Qpo,show Qcn (xs.map tB)=0 from h] at this
theorem QlC {xs:List Bt} (h:cB xs):Zu xs=some 0:=by
 have:=QnY (ls:=xs.map tB) h.neat.short' (by rw[Ya];have:=h.neat.len;omega);rwa[Qpo,show Qbj (xs.map tB)=0 from h] at this
theorem QfM {xs:List Bt} (h:xs.length<=1000):Z3 xs=some xs:=Qd (by omega)
theorem Qn8 {xs:List Bt} (h:xs.length<=1000):Jl xs xs=some true:=by
 unfold Jl;rw[Y0 (by simp),Qst xs.length (.inr ()) (fun i hi=>?_) ?_,Qa]
 ·rw[Y0 (by simp)]
 ·have G:(0:Int)<=(i:Int)∧(i:Int)<((xs.length:Nat):Int):=by omega
  rw[Y2 (Yd G.2),Qd G,Qd G,Y0 (by simp),Qj hi (by omega)]
section
variable {lv la:Int} {a o:QAu} {cs:List QAr} {b:QAs} {j:QAt}
theorem Qqx {s:QAv} (h:StFew s):Qa4 s=some s:=by
 unfold Qa4;have hc:=h.box.cands;have hs:=h.slots;rw[QfM h.box.lines,Qa,QfM h.box.back,Qa,QhU s.Box.Cands.length (fun i=>s.Box.Cands.getD i default) (fun ys=>(ys.length,ys)) (fun i a hi ha=>?_) (fun a ha=>?_),Qa,QhU s.Slots.length (fun i=>s.Slots.getD i default) (fun ys=>(ys.length,ys)) (fun i a hi ha=>?_) (fun a ha=>?_),Qa,QfM h.job,Qa]
 ·have e1:=QdH s.Box.Cands id;have I:=QdH s.Slots id;simp only[id_eq,List.map_id] at e1 I;dsimp only;rw[e1,I]
 ·have hm:=h.slot _ (Zb hi);have G:(0:Int)<=(i:Int)∧(i:Int)<((s.Slots.length:Nat):Int):=by omega
  dsimp only;rw[Y2 (Yd G.2),Qd G,Y3,QfM hm,Qa,Qd (by rw[List.length_singleton];omega),Qj hi (by omega)]
 ·dsimp only;rw[Y0 (by simp)]
 ·have hm:=h.box.cand _ (Zb hi);have G:(0:Int)<=(i:Int)∧(i:Int)<((s.Box.Cands.length:Nat):Int):=by omega
  dsimp only;rw[Y2 (Yd G.2),Qd G,Y3,QfM hm.1,Qa,QfM hm.2,Qa,Qd (by rw[List.length_singleton];omega),Qj hi (by omega)]
 ·dsimp only;rw[Y0 (by simp)]
theorem Qul {s:QAv} {p:QAu} (h:SlotB s.Last p):QaV s p=some true:=by
 unfold QaV
 cases e:p.Whole
 ·have⟨h1,h2,h3⟩:=h.part e;rw[Y2 (by rfl),h1,h2,Qe (by rfl),Qhm h3,Qa]
  rfl
 ·have⟨h1,h2,h3⟩:=h.whole e;have G:QT p.Edition 0 s.Last=some true:=by
   show some (decide (0<=_)&&decide (_<=_))=_;rw[Yd h1,Yd h2];rfl
  rw[Y0 (by decide),G,Qa,Qe rfl,QlC h3,Qa]
  rfl
theorem Qum {up:Bool} (D:Disk lv la a o):Qb5 ⟨up,b,two lv a o,lv,la,j⟩=some true:=by
 have I:SlotB la ((two lv a o).getD 0 default):=by rcases D.lv with rfl|rfl<;>first|exact D.ab|exact D.ob
 have h1:SlotB la ((two lv a o).getD 1 default):=by rcases D.lv with rfl|rfl<;>first|exact D.ab|exact D.ob
 have e1:QT lv 0 1=some true:=by rcases D.lv with rfl|rfl<;>rfl
 have e2:QT la 0 1000000=some true:=by
  show some (decide (0<=la)&&decide (la<=1000000))=_;rw[Yd D.l0,Yd D.l1];rfl
 unfold Qb5;dsimp only;have J:((((2:Nat):Int)) !=2)=false:=rfl;rw[QaE,J,Qe rfl,e1,Qa,Qe (by rfl),e2,Qa,Qd (fun _=>by decide),Qe (by rfl),Qul (s:=⟨up,b,two lv a o,lv,la,j⟩) I,Qa,Qd (fun _=>by decide),Qe (by rfl),Qul (s:=⟨up,b,two lv a o,lv,la,j⟩) h1,Qa,Y0 (by decide),Qd (QfW D.lv),Qg0 D.lv,Qd (Qbd D.lv),JO D.lv,J3 D.lv,D.aw]
 cases ht:a.Trial
 ·rfl
 ·have⟨O,U,Y,G⟩:=D.tr ht;rw[U,Y,O,Yd G];simp
theorem Qv3 {up:Bool} (D:Disk lv la a o) (h:Qf4 b.Edition la a.Edition):Qbl ⟨up,b,two lv a o,lv,la,j⟩=some true:=by
 have l0:=D.l0;have l1:=D.l1;unfold Qbl;dsimp only;rw[QaE,Qd (fun _ _=>QfW D.lv),JO D.lv,Qm (by omega) (by omega)];unfold Qf4 at h;rcases h with ⟨h1,h2⟩|⟨h1,h2⟩
 ·rw[h1,h2];simp
 ·rw[h1];simp
theorem Qh2 {x lo hi:Int} (G:lo<=x) (h1:x<=hi):QT x lo hi=some true:=by
 show some (decide (_<=_)&&decide (_<=_))=_;rw[Yd G,Yd h1];rfl
theorem Qv4 (D:Disk lv la a o) (P:Phase la a o cs b j):Qcv ⟨true,b,two lv a o,lv,la,j⟩=some true:=by
 have l0:=D.l0;have l1:=D.l1;have hA:=D.ab.few;have hO:=D.ob.few;have G:=P.ed D;have O:=Qn8 (xs:=a.Lines) (by omega);have Y:=Qn8 (xs:=o.Lines) (by omega);have U:=Qv3 (up:=true) (b:=b) (j:=j) D;unfold Qcv;dsimp only;rw[QaE,Qd (QfW D.lv),Qg0 D.lv,Qd (Qbd D.lv),JO D.lv,J3 D.lv]
 cases P with
 |trial T k ht h1 h9 hk=>
  dsimp only;rw[Y2 (Yd (by omega)),ht,Yd h9,Qe (by rfl),O,Qa,Qe (by rfl),Y,Qa];rcases hk with rfl|rfl
  ·rw[Qe (by simp),show Zj (jK 0)=some true from rfl,Qa,QO (by simp),Qa];simp
  ·rw[Qe (by simp),show Zj (jK 2)=some false from rfl,Qa,Qe (by simp),show Qa7 (jK 2) 2=some true from rfl,Qa];simp
 |back ht=>
  dsimp only;rw[Y0 (by simp),Y0 (by simp),Y2 ht,Y,Qa,Qm (by omega) (by omega),Qe (by simp),show Qa7 (jK 3) 3=some true from rfl,Qa];simp
 |idle E ht hE=>
  dsimp only;rw[Y0 (by simp),Y0 (by simp),Y0 (by rw[ht];decide),O,Qa,Y0 (by decide),show Zj (jK 0)=some true from rfl,Qa,Y2 rfl,U hE,Qa]
 |start E t js ht I hm hj t0 t9=>
  dsimp only at G|-;have J:Zj (⟨1,0,E+1,t,js⟩:QAt)=some false:=rfl;have hc:Jb ⟨true,⟨E,a.Lines,0,[],cs⟩,two lv a o,lv,la,⟨1,0,E+1,t,js⟩⟩=some true:=by
   have hl:=hj.neat.len;unfold Jb;dsimp only;rw[Qe (by rfl),QlC hj,Qa,Qe (by rfl),Qm (n:=(js.length:Int)+2) (by omega) (by omega),Qh2 (by omega) (by omega),Qa,Qe (by rfl),Qh2 t0 t9,Qa,Qm (n:=E+1) (by omega) (by omega),Y0 (by simp;omega),QO (by decide),Qa]
   rfl
  rw[Y0 (by simp),Y0 (by simp),Y0 (by rw[ht];decide),O,Qa,Y0 (by decide),J,Qa,Y0 (by decide),hc,Qa,Qe (by simp),U I,Qa]
  rfl
 |part E t js k ht I ha hj t0 t9 hk ho=>
  dsimp only at G|-;have J:Zj (⟨1,(k:Int)+1,E+1,t,js⟩:QAt)=some false:=rfl;have hc:Jb ⟨true,⟨E,a.Lines,0,[],cs⟩,two lv a o,lv,la,⟨1,(k:Int)+1,E+1,t,js⟩⟩=some true:=by
   have hl:=hj.neat.len;unfold Jb QdU;dsimp only;rw[Qe (by rfl),QlC hj,Qa,Qe (by rfl),Qm (n:=(js.length:Int)+2) (by omega) (by omega),Qh2 (by omega) (by omega),Qa,Qe (by rfl),Qh2 t0 t9,Qa,Qm (n:=E+1) (by omega) (by omega),Y0 (by simp;omega),Qe (by simp;omega),QaE,Qg0 D.lv,Qd (Qbd D.lv),Y0 (by simp;omega),Y0 (by simp;omega),J3 D.lv,Qm (n:=(k:Int)+1-1) (by omega) (by omega),show((k:Int)+1-1).toNat=k by omega,ho];dsimp only;rw[Qd (fun _=>by omega),Qe (by rfl),Qn8 (by rw[Yn];omega),Qa,Qa];simp
  rw[Y0 (by simp),Y0 (by simp),Y0 (by rw[ht];decide),O,Qa,Y0 (by decide),J,Qa,Y0 (by decide),hc,Qa,QO (by simp;try omega),Qa,Yd (by omega)]
  rfl
 |done E t js ht I ha hj t0 t9 ho=>
  dsimp only at G|-;have J:Zj (⟨1,(js.length:Int)+2,E+1,t,js⟩:QAt)=some false:=rfl;have hc:Jb ⟨true,⟨E,a.Lines,0,[],cs⟩,two lv a o,lv,la,⟨1,(js.length:Int)+2,E+1,t,js⟩⟩=some true:=by
   have hl:=hj.neat.len;unfold Jb QdU;dsimp only;rw[Qe (by rfl),QlC hj,Qa,Qe (by rfl),Qm (n:=(js.length:Int)+2) (by omega) (by omega),Qh2 (by omega) (by omega),Qa,Qe (by rfl),Qh2 t0 t9,Qa,Qm (n:=E+1) (by omega) (by omega),Y0 (by simp;omega),Qe (by simp;omega),QaE,Qg0 D.lv,Qd (Qbd D.lv),Y0 (by simp;omega),Y2 (by simp),J3 D.lv,ho];dsimp only;rw[Qe (by simp),Qn8 (by omega),Qa,Qa];simp
  rw[Y0 (by simp),Y0 (by simp),Y0 (by rw[ht];decide),O,Qa,Y0 (by decide),J,Qa,Y0 (by decide),hc,Qa,QO (by simp;omega),Qa,Yd (by omega)]
  rfl
theorem Qzy {s:Bt} (h:Qc6 (tB s)=true):Zs s=some true:=by
 have:=Qjf (w:=tB s) (QlA h);rwa[QfF,h] at this
theorem Qv5 {b:QAs} (h:CandsB b.Edition b.Cands):Qcw b=some true:=by
 unfold Qcw;have hf:=h.few;rw[Y0 (by simp;omega),Qst b.Cands.length (.inr ()) (fun i hi=>?_) ?_,Qa]
 ·rw[Y0 (by simp)]
 ·have hc:=h.each _ (Zb hi);have I:(0:Int)<=(i:Int)∧(i:Int)<((b.Cands.length:Nat):Int):=by omega
  have J:0<i->IntKind.i64.wrap ((i:Int) -1)=((i-1:Nat):Int):=fun G=>by rw[Qm (by omega) (by omega)];omega
  have O:(decide ((i:Int)>0)&&(!(bsl ((b.Cands.getD ((IntKind.i64.wrap ((i:Int) -1)).toNat) default).User) ((b.Cands.getD i default).User))))=false:=by
   cases G:decide ((i:Int)>0)
   ·rfl
   ·have hp:0<i:=by have:=Yl G;omega
    rw[J hp,Y3,Qqw h.rise hp hi];rfl
  rw[Y2 (Yd I.2),Qd I,Y3,Qzy hc.name,Qa,Qe (by rfl),Qh2 hc.b0 hc.b1,Qa,Qe (by rfl),Qhm hc.rows,Qa,Qe (by rfl),Qhm hc.lines,Qa,Qd (fun G _=>by have:0<i:=(by have:=Yl G;omega);rw[J this];omega),O,Y0 (by decide),Qj hi (by omega)]
end
theorem QAc {s:QAv} (h:Ok s):Qbe s=some true:=by
 unfold Qbe
 cases h with
 |down lv la a o D=>
  rw[Qum D,Qa,Y0 (by decide),Y2 (by rfl),Qe (by rfl),show Zj (jK 0)=some true from rfl,Qa]
  rfl
 |up lv la a o cs b j D C P=>
  have hb:CandsB b.Edition b.Cands:=by rw[P.cands];exact C
  rw[Qum D,Qa,Y0 (by decide),Y0 (by simp),Qv4 D P,Qa,Qe rfl,Qv5 hb,Qa]
  rfl
def atI (o:Option Nat):Int:=match o with|some i=>(i:Int)|none=>-1
def kfB (s:Bt):Bt:=tS (Qc8 (tB s))
theorem Qyh {s:Bt} (h:s.size<=1000000):ZH s=some (kfB s):=by
 have:=Qt2 (l:=tB s) (by rw[Qiz];exact h);rwa[QfF] at this
theorem Qrw {ls:List Bt} {k:Bt} (h:nB ls):Qai ls k=some (atI (ls.findIdx? fun l=>kfB l==k)):=by
 have hl:=h.len;unfold Qai;rw[Jp ls.length (fun i=>kfB (ls.getD i default)==k) (fun i=>.inl (i:Int)) (.inr ()) (fun i hi=>?_) ?_,Qa,<-QfL (p:=fun l:Bt=>kfB l==k)]
 ·cases ls.findIdx? fun l=>kfB l==k<;>rfl
 ·rw[Y0 (by simp)]
 ·have G:(0:Int)<=(i:Int)∧(i:Int)<((ls.length:Nat):Int):=by omega
  rw[Y2 (Yd G.2),Qd G,Y3,Qyh (by have:=h.short (Zb hi);omega),Qa,Qj hi (by omega)];split<;>rfl
theorem Qn9 {ls:List Bt} {k:Bt} (h:nB ls):Jc ls k=some (match ls.findIdx? fun l=>kfB l==k with|some i=>ls.getD i default|none=>⟨#[]⟩):=by
 unfold Jc;rw[Qrw h,Qa]
 cases e:ls.findIdx? fun l=>kfB l==k with
 |none=>exact Y2 (by decide)
 |some i=>
  have hi:=(List.findIdx?_eq_some_iff_getElem.1 e).1;show(if decide ((i:Int)<0)=true then _ else _)=_;rw[Y0 (by simp),Qd (by show(0:Int)<=(i:Int)∧(i:Int)<_;omega)]
  rfl
theorem Qv6 {l u:Bs} (h:QaD l=true):(Qc8 l=wUser++32::u)↔((wsL l).getD 0 []=wUser∧(wsL l).getD 1 []=u):=by
 have⟨ws,_,hb,_,G⟩:=Qb1 h;unfold Qc8;rw[h,XO,G];have F:=Qso hb
 cases F with
 | @user b c h1 h2=>
  have e:Qb0 (([wUser,b,c]:List Bs).take (keyN (([wUser,b,c]:List Bs).getD 0 [])))=wUser++32::b:=by
   show wUser++((32::b)++[])=_;rw[Xr]
  rw[e]
  constructor
  ·intro I;refine⟨rfl,?_⟩;have:=List.append_cancel_left I;exact(List.cons.inj this).2
  ·rintro⟨_,rfl⟩;rfl
 |host h1=>exact⟨fun e=>absurd (congrArg (fun x:Bs=>x.headD 0) e) (show ¬(104:UInt8)=117 by decide),fun e=>absurd e.1 (by show ¬QfJ=wUser;decide)⟩
 |port h1 h2=>exact⟨fun e=>absurd (congrArg (fun x:Bs=>x.headD 0) e) (show ¬(112:UInt8)=117 by decide),fun e=>absurd e.1 (by show ¬Q6=wUser;decide)⟩
 |port2 h1 h2 h3=>exact⟨fun e=>absurd (congrArg (fun x:Bs=>x.headD 0) e) (show ¬(112:UInt8)=117 by decide),fun e=>absurd e.1 (by show ¬Q6=wUser;decide)⟩
 |rule h1 h2 h3 h4 h5 h6=>exact⟨fun e=>absurd (congrArg (fun x:Bs=>x.headD 0) e) (show ¬(114:UInt8)=117 by decide),fun e=>absurd e.1 (by show ¬QaF=wUser;decide)⟩
 |route h1 h2=>exact⟨fun e=>absurd (congrArg (fun x:Bs=>x.headD 0) e) (show ¬(114:UInt8)=117 by decide),fun e=>absurd e.1 (by show ¬QaG=wUser;decide)⟩
 |peer h1 h2 h3=>exact⟨fun e=>absurd (congrArg (fun x:Bs=>x.headD 0) e) (show ¬(112:UInt8)=117 by decide),fun e=>absurd e.1 (by show ¬QbK=wUser;decide)⟩
 |nat h1 h2 h3 h4=>exact⟨fun e=>absurd (congrArg (fun x:Bs=>x.headD 0) e) (show ¬(110:UInt8)=117 by decide),fun e=>absurd e.1 (by show ¬QiM=wUser;decide)⟩
 |door h1 h2 h3 h4=>exact⟨fun e=>absurd (congrArg (fun x:Bs=>x.headD 0) e) (show ¬(100:UInt8)=117 by decide),fun e=>absurd e.1 (by show ¬wDoor=wUser;decide)⟩
theorem Qv7 {ls:List Bt} (h:nB ls) (u:Bt):(ls.findIdx? fun l=>kfB l==(⟨#[117,115,101,114,32]⟩:Bt)++u).isSome=isU ls u:=by
 unfold isU;rw[List.findIdx?_isSome];have:∀l∈ls,(kfB l==(⟨#[117,115,101,114,32]⟩:Bt)++u)=((wsL (tB l)).getD 0 []==wUser&&(wsL (tB l)).getD 1 []==tB u):=fun l hl=>by
  have e1:(⟨#[117,115,101,114,32]⟩:Bt)++u=tS (wUser++32::tB u):=by
   have:(⟨#[117,115,101,114,32]⟩:Bt)=tS [117,115,101,114,32]:=rfl;rw[this]
   conv=>lhs;rw[<-QfF u]
   rw[Qhk]
   rfl
  rw[e1];unfold kfB;rw[Ji,YE,X4,Y4,X4,X4];exact Qv6 (h.kept hl)
 rw[YE,YN,YN]
 constructor
 ·rintro⟨l,hl,e⟩;exact⟨l,hl,by rw[<-this l hl];exact e⟩
 ·rintro⟨l,hl,e⟩;exact⟨l,hl,by rw[this l hl];exact e⟩
theorem Qyi {s:Bt} (h:QaD (tB s)=true):(s==(⟨#[]⟩:Bt))=false:=by
 cases e:(s==(⟨#[]⟩:Bt))
 ·rfl
 ·rw[Nc.bq.1 e] at h;exact absurd h (by decide)
theorem QwN {u:Bt} (h:u.size<=1000000):Zs u=some (Qc6 (tB u)):=by
 have:=Qjf (w:=tB u) (by rw[Qiz];exact h);rwa[QfF] at this
theorem Qun {ls:List Bt} (h:nB ls) {u:Bt} (I:u.size<=1000000):QbP ls u=some (isU ls u):=by
 unfold QbP;rw[QwN I,Qa,Qd (fun _=>by
  have:(⟨#[117,115,101,114,32]⟩:Bt).size=5:=rfl;omega)]
 cases G:Qc6 (tB u)
 ·rw[QO (by decide),Qa,YM]
  cases hi:isU ls u
  ·rfl
  ·rw[QlB h hi] at G;cases G
 ·rw[Qe rfl,Qn9 h,Qa,Yq,<-Qv7 h u]
  cases e:ls.findIdx? fun l=>kfB l==(⟨#[117,115,101,114,32]⟩:Bt)++u with
  |none=>rfl
  |some i=>
   have hi:=(List.findIdx?_eq_some_iff_getElem.1 e).1;dsimp only;rw[Qyi (h.kept (Zb hi))]
   rfl
theorem Quo {b:QAs} {u:Bt} (h:b.Cands.length<=1000):Qch b u=some (atI (atU b.Cands u)):=by
 unfold Qch atU;rw[Jp b.Cands.length (fun i=>(b.Cands.getD i default).User==u) (fun i=>.inl (i:Int)) (.inr ()) (fun i hi=>?_) ?_,Qa,<-QfL (p:=fun c:QAr=>c.User==u)]
 ·cases b.Cands.findIdx? fun c=>c.User==u<;>rfl
 ·rw[Y0 (by simp)]
 ·have G:(0:Int)<=(i:Int)∧(i:Int)<((b.Cands.length:Nat):Int):=by omega
  rw[Y2 (Yd G.2),Qd G,Y3,Qj hi (by omega)];split<;>rfl
section
variable {lv la:Int} {a o:QAu} {cs:List QAr} {b:QAs} {j:QAt}
theorem Qv8 (D:Disk lv la a o) (C:CandsB b.Edition cs) (P:Phase la a o cs b j) {e:QAw} (J:e.User.size<=1000000):Qcx ⟨true,b,two lv a o,lv,la,j⟩ e=some (QdQ ⟨true,b,two lv a o,lv,la,j⟩ e.User):=by
 have I:=(P.force D).neat
 have hc:=P.cands;have h3:=C.few;unfold Qcx QdQ;dsimp only;rw[hc,Qun I J,Qa]
 cases isU b.Lines e.User
 ·rw[Y2 (by rfl),Y2 rfl]
 rw[Y0 (show ¬((!true)=true) by decide),Y0 (show ¬(true=false) by decide),Quo (by rw[hc];omega),Qa,hc]
 cases hk:atU cs e.User with
 |some k=>
  have⟨h1,h2,_⟩:=Qh1 hk;show(if decide ((k:Int)>=0)=true then _ else _)=_;rw[Y2 (by simp),Qd (by show(0:Int)<=(k:Int)∧(k:Int)<_;omega),Qa,Y0 (fun h=>by cases h.1)];show some (({(⟨true,b,two lv a o,lv,la,j⟩:QAv) with Box:={b with Cands:=cs.set ((k:Int)).toNat _}}:QAv),(0:Int))=_;rw[Y3,Qyf (c:=⟨e.User,b.Edition,b.Lines,b.Lines⟩) C.rise h1 h2]
  rfl
 |none=>
  show(if decide ((-1:Int)>=0)=true then _ else _)=_;rw[Y0 (by decide)]
  by_cases hl:cs.length=3
  ·rw[Y2 (by rw[hl];rfl),Y2 ⟨rfl,hl⟩]
  ·rw[Y0 (by simp;omega),Y0 (fun h=>hl h.2),QwL cs (fun x=>bsl x.User e.User) (fun i hi=>?_) ?_,Qa]
   ·have hle:=Qx8 (fun x:QAr=>bsl x.User e.User) cs;have hi:=QwM (fun x y:QAr=>bsl x.User y.User) cs ⟨e.User,b.Edition,b.Lines,b.Lines⟩;dsimp only at hi;rw[Qd (by omega),Qd (by omega),Qd (by rw[Yn,List.length_singleton];omega),Qd (by omega),Qd (by rw[Q5,Yk,Yn,List.length_singleton];omega),hi,Qyg C.rise fun x O=>Qyb hk x O]
    rfl
   ·rw[Qd (fun h=>by simp at h),Y0 (by simp)]
   ·have G:(0:Int)<=(i:Int)∧(i:Int)<((cs.length:Nat):Int):=by omega
    rw[Qd (fun _=>G),Yd G.2,Yq,Y3,Qj hi (by omega)];split<;>rfl
theorem Qsz (D:Disk lv la a o) (P:Phase la a o cs b j) {e:QAw} (I:e.User.size<=1000000):QbC ⟨true,b,two lv a o,lv,la,j⟩ e=some (Qav ⟨true,b,two lv a o,lv,la,j⟩ e.User e.N):=by
 have J:=(P.force D).neat
 have hj:decide (j.Kind>0)=decide (j.Kind≠0):=by cases P with
  |trial T k ht h1 h9 hk=>rcases hk with rfl|rfl<;>rfl
  |_=>rfl
 unfold QbC Qav;dsimp only;rw[hj]
 by_cases G:b.Trial=0
 ·rw[Y2 (by simpa using G),Y2 G]
 rw[Y0 (by simpa using G),Y0 G]
 by_cases h1:e.N=b.Edition
 ·rw[Y0 (show ¬((e.N !=b.Edition)=true) by simpa using h1),Y0 (show ¬(e.N≠b.Edition) from fun h=>h h1),Qun J I,Qa]
  cases isU b.Lines e.User
  ·rw[Y2 (show(!false)=true from rfl),Y2 rfl]
  ·rw[Y0 (show ¬((!true)=true) by decide),Y0 (show ¬(true=false) by decide)]
   by_cases h2:j.Kind=0
   ·rw[Y0 (show ¬(decide (j.Kind≠0)=true) by simpa using h2),Y0 (show ¬(j.Kind≠0) from fun h=>h h2)]
   ·rw[Y2 (show decide (j.Kind≠0)=true by simpa using h2),Y2 (show j.Kind≠0 from h2)]
 ·rw[Y2 (show(e.N !=b.Edition)=true by simpa using h1),Y2 (show e.N≠b.Edition from h1)]
theorem Qyj (D:Disk lv la a o) (P:Phase la a o cs b j):Qdk ⟨true,b,two lv a o,lv,la,j⟩=some (Qj1 ⟨true,b,two lv a o,lv,la,j⟩):=by
 have l0:=D.l0;have l1:=D.l1;have hE:=P.ed D;unfold Qdk Qj1;dsimp only
 by_cases G:b.Trial=0
 ·rw[Y2 (by simpa using G),Y2 G]
 rw[Y0 (by simpa using G),Y0 G]
 cases P with
 |trial T k ht h1 h9 hk=>
  dsimp only at hE|-;rw[Qm (n:=T-1) (by omega) (by omega),Qm (n:=la+1) (by omega) (by omega)]
  by_cases I:T=1
  ·subst I;rw[Y0 (by decide),Y2 rfl]
   rfl
  ·rw[Y2 (by simp;omega),Y0 I]
 |_=>exact absurd rfl G
theorem Qrx {x:QAu} (h:lv=0∨lv=1):(two lv a o).set (1-lv).toNat x=two lv a x:=by
 rcases h with rfl|rfl<;>rfl
theorem Qv9 {x:QAu} (h:lv=0∨lv=1):(two lv a o).set lv.toNat x=two lv x o:=by
 rcases h with rfl|rfl<;>rfl
theorem Qzz (D:Disk lv la a o) (P:Phase la a o cs b j) (hj:j.Kind=1):QdV ⟨true,b,two lv a o,lv,la,j⟩=some (QpD ⟨true,b,two lv a o,lv,la,j⟩):=by
 have hf:=P.few D;have hr:0<=j.Step∧j.Step<=(j.Lines.length:Int)+2:=by
  cases P with
  |trial T k ht h1 h9 hk=>rcases hk with rfl|rfl<;>exact absurd hj (by decide)
  |back ht=>exact absurd hj (by decide)
  |idle E ht hE=>exact absurd hj (by decide)
  |start E t js ht hE hm hj t0 t9=>dsimp only;omega
  |part E t js k ht hE ha hj t0 t9 hk ho=>dsimp only;omega
  |done E t js ht hE ha hj t0 t9 ho=>dsimp only;omega
 have hob:=D.ob.few;unfold QdV QpD Qf5 QpC;dsimp only;rw[Qg0 D.lv,QaE,JO D.lv,J3 D.lv,Qm (n:=(j.Lines.length:Int)+2) (by omega) (by omega)];simp only[Qrx D.lv,J3 D.lv]
 by_cases h2:j.Step=(j.Lines.length:Int)+2
 ·rw[Y2 (by simpa using h2),Y0 (by omega),Y0 (by omega),Y0 (by omega)];unfold QeK;dsimp only;rw[Qg0 D.lv]
  by_cases ht:j.Ticks>0
  ·rw[Y2 (Yd ht),Y2 ht,Y2 ht]
   rfl
  ·rw[Y0 (by simpa using ht),Y0 ht,Y0 ht]
   rfl
 rw[Y0 (by simpa using h2)]
 by_cases G:j.Step=0
 ·rw[Y2 (by simpa using G),Y2 G,Qd (Qbd D.lv),Qa,G]
  rfl
 rw[Y0 (by simpa using G),Y0 G,Qm (n:=j.Step+1) (by omega) (by omega)]
 by_cases h1:j.Step<=(j.Lines.length:Int)
 ·rw[Y2 (Yd h1),Y2 h1,Qd (Qbd D.lv),QfM (by omega),Qa,Qm (n:=j.Step-1) (by omega) (by omega),Qd (by omega),Qd (by rw[List.length_singleton];omega),Qd (Qbd D.lv),Qa,Qa]
 ·rw[Y0 (by simpa using h1),Y0 h1,Y2 (by omega),Qd (Qbd D.lv),Qa,Qd (Qbd D.lv),Qa,Qd (Qbd D.lv),Qa,Qa];simp only[Qrx D.lv,J3 D.lv]
theorem Qwa (D:Disk lv la a o) (P:Phase la a o cs b j):Qcy ⟨true,b,two lv a o,lv,la,j⟩=some (Qa0 ⟨true,b,two lv a o,lv,la,j⟩):=by
 unfold Qcy Qa0;dsimp only
 by_cases h1:j.Kind=1
 ·rw[Y2 (by simpa using h1),Y2 h1,Qzz D P h1,Qa]
 rw[Y0 (by simpa using h1),Y0 h1]
 by_cases h2:j.Kind=2
 ·rw[Y2 (by simpa using h2),Y2 h2,QaE,Qd (QfW D.lv),JO D.lv,Qv9 D.lv];unfold Qf5 QpC;dsimp only;rw[JO D.lv,J3 D.lv]
 rw[Y0 (by simpa using h2),Y0 h2]
 by_cases h3:j.Kind=3
 ·rw[Y2 (by simpa using h3),Y2 h3,Qg0 D.lv]
 ·rw[Y0 (by simpa using h3),Y0 h3]
theorem Qyk (D:Disk lv la a o):Qdl ⟨false,b,two lv a o,lv,la,j⟩=some (Qmh ⟨false,b,two lv a o,lv,la,j⟩):=by
 have l0:=D.l0;have l1:=D.l1;unfold Qdl Qmh Qf5 QpC;dsimp only;rw[QaE,Qd (QfW D.lv),Qg0 D.lv,JO D.lv,J3 D.lv,Qm (n:=la+1) (by omega) (by omega)]
 by_cases ht:a.Trial=true
 ·rw[Y2 ht,Y2 ht,Qd (Qbd D.lv)]
 ·rw[Y0 ht,Y0 ht]
  by_cases G:a.Edition=la
  ·rw[Y0 (by simpa using G),Y2 G]
  ·rw[Y2 (by simpa using G),Y0 G]
end
abbrev QzA (xs:List Bt) (s:Bt):List Bt:=QyO (fun x y=>bsl x y) xs s
theorem QzB {xs:List Bt} {s:Bt} (h:xs.length<=1000):JI xs s=some (QzA xs s):=by
 unfold JI;rw[QwL xs (fun x=>bsl x s) (fun i hi=>?_) ?_,Qa]
 ·have hle:=Qx8 (fun x:Bt=>bsl x s) xs;have hi:=QwM (fun x y:Bt=>bsl x y) xs s;rw[Qd (by omega),Qd (by omega),Qd (by rw[Yn,List.length_singleton];omega),Qd (by omega),Qd (by rw[Q5,Yk,Yn,List.length_singleton];omega),hi]
 ·rw[Qd (fun h=>by simp at h),Y0 (by simp)]
 ·have G:(0:Int)<=(i:Int)∧(i:Int)<((xs.length:Nat):Int):=by omega
  rw[Qd (fun _=>G),Yd G.2,Yq,Y3,Qj hi (by omega)];split<;>rfl
theorem Qpr (xs:List Bt) (s:Bt):(QzA xs s).Perm (s::xs):=by
 unfold QzA QyO;refine List.perm_middle.trans ?_;rw[XR]
theorem Qup {xs:List Bt} {s:Bt} (I:xs.Pairwise fun x y=>bsl x y=true) (O:s∉xs):(QzA xs s).Pairwise fun x y=>bsl x y=true:=by
 have ht:∀x∈xs.takeWhile (fun x=>bsl x s),bsl x s=true:=fun x G=>Yb.1 (List.all_takeWhile (p:=fun x:Bt=>bsl x s) (l:=xs)) x G;have U:∀x∈xs.dropWhile (fun x=>bsl x s),bsl s x=true:=by
  clear ht
  induction xs with
  |nil=>intro x G;cases G
  |cons y r ih=>
   rw[YS] at I;rw[List.dropWhile_cons];split
   ·exact ih I.2 fun h=>O (Yp _ h)
   ·rename_i Y;have h1:bsl s y=true:=by
     cases e:bsl s y
     ·exact absurd (Qn5 e (by simpa using Y)) fun h=>O (by rw[h];exact List.mem_cons_self ..)
     ·rfl
    intro x G;rcases Yh.1 G with rfl|G
    ·exact h1
    ·exact Qfd h1 (I.1 x G)
 refine XE.2 ⟨I.sublist (Xy _),YS.2 ⟨U,I.sublist (List.dropWhile_sublist _)⟩,fun x G y J=>?_⟩;rcases Yh.1 J with rfl|J
 ·exact ht x G
 ·exact Qfd (ht x G) (U y J)
theorem QzC {xs:List Bt} {ys:List Bs} (G:xs.Pairwise fun x y=>bsl x y=true) (hp:(xs.map tB).Perm ys):xs=(QuL ys).map tS:=by
 have h1:(xs.map tB).Pairwise fun x y=>x<=y:=X5.2 (G.imp fun {x y} h=>by rw[Qjp] at h;exact List.le_of_lt (Yl h));have h2:xs.map tB=QuL ys:=(hp.trans (Qpj ys).symm).eq_of_pairwise (fun a b _ _=>List.le_antisymm) h1 (Qlz ys);rw[<-h2,Qpo]
theorem nB.up {xs:List Bt} (h:nB xs):xs.Pairwise fun x y=>bsl x y=true:=(X5.1 (Qug h)).imp fun {x y} h=>by rw[Qjp];exact Yd h
theorem nB.keys {xs:List Bt} (h:nB xs):xs.Pairwise fun x y=>kfB x≠kfB y:=(X5.1 (Qly h)).imp fun {x y} h e=>h (QtG e)
theorem Qry {xs:List Bt} {i:Nat} (h:i<xs.length) (hl:xs.length<=1000):Zx xs (i:Int)=some (xs.eraseIdx i):=by
 have e:IntKind.i64.wrap ((i:Int)+1)=((i+1:Nat):Int):=Qj h (by omega);have G:QgL ((xs.length:Nat):Int) ((i+1:Nat):Int)=xs.length-(i+1):=by rw[Q5];omega
 unfold Zx;rw[e,G,Y3,Y3,Qd (by omega),Qd (by omega),Qd (by omega),Qd (by rw[Yn];omega),show i+1+(xs.length-(i+1))=xs.length by omega,YZ,List.eraseIdx_eq_take_drop_succ]
theorem QwO {s:Bt} (h:s.size<=1000000):JU s=some (match QhT (tB s) with|some x=>(tS x,true)|none=>(tS [],false)):=by
 have:=QtZ (l:=tB s) (by rw[Qiz];exact h);rwa[QfF] at this
section
variable {lv la:Int} {a o:QAu} {cs:List QAr} {b:QAs} {j:QAt}
theorem Qyl (ls:List Bt) (x:Bs):(ls.filter fun l=>!(kfB l==tS (Qc8 x)))=(eR (ls.map tB) x).map tS:=by
 unfold eR;rw[List.filter_map,Xx];have:((fun y=>!(Qc8 y==Qc8 x))∘tB)=fun l=>!(kfB l==tS (Qc8 x)):=funext fun l=>by
  show(!(Qc8 (tB l)==Qc8 x))=!(kfB l==tS (Qc8 x));unfold kfB;rw[Ji]
 rw[this];exact((YK fun s _=>QfF s).trans (List.map_id _)).symm
theorem QzD (C:CandsB b.Edition cs) (a5:b.Cands=cs) {k:Nat} (hk:k<cs.length) {e:QAw} (hl:e.Line.size<=1000000) (a3:atU cs e.User=some k):Qcz ⟨true,b,two lv a o,lv,la,j⟩ (k:Int) e.Line=some (QyP ⟨true,b,two lv a o,lv,la,j⟩ e):=by
 have h3:=C.few;have hc:=C.each _ (Zb hk);have Y:=hc.lines;have a2:=Y.len;unfold Qcz QyP Qh0;dsimp only;rw[a5,a3,QwO hl,Qa];dsimp only;simp only[Y3];generalize cs.getD k default=c at hc Y a2|-;have hg:(0:Int)<=(k:Int)∧(k:Int)<((cs.length:Nat):Int):=by omega
 cases hv:QhT (tB e.Line) with
 |none=>exact Y2 (by rfl)
 |some x=>
  have hx:=Qkt (Qpm hv);dsimp only;have U:kfB (tS x)=tS (Qc8 x):=by unfold kfB;rw[Qf3]
  rw[Y0 (by decide),Qd hg,Qyh (by rw[QaT];omega),Qa,U,Qrw Y,Qa];have hp:c.Lines.Pairwise fun y z=>¬((kfB y==tS (Qc8 x))=true∧(kfB z==tS (Qc8 x))=true):=Y.keys.imp fun {y z} h ⟨h1,h2⟩=>h ((Nc.bq.1 h1).trans (Nc.bq.1 h2).symm);have hR:=QjK hp;rw[Qyl] at hR;have G:∀ys:List Bt,ys=(eR (c.Lines.map tB) x).map tS->(if((((ys.length:Nat):Int))==16)=true then some ((⟨true,b,two lv a o,lv,la,j⟩:QAv),(4:Int)) else bd (JI ys (tS x)) fun x9=>gd ((0:Int)<=(k:Int)∧(k:Int)<((cs.length:Nat):Int))<|some (({(⟨true,b,two lv a o,lv,la,j⟩:QAv) with Box:={b with Cands:=cs.set k {c with Lines:=x9}}}:QAv),0))=some (if(eR (c.Lines.map tB) x).length=16 then((⟨true,b,two lv a o,lv,la,j⟩:QAv),(4:Int)) else(Qya ⟨true,b,two lv a o,lv,la,j⟩ (cs.set k {c with Lines:=(QuL (eR (c.Lines.map tB) x++[x])).map tS}),0)):=fun ys J=>by
   have I:ys.length=(eR (c.Lines.map tB) x).length:=by rw[J,Ya]
   have a4:(eR (c.Lines.map tB) x).length<=(c.Lines.map tB).length:=Xe _ _;rw[Ya] at a4
   by_cases O:(eR (c.Lines.map tB) x).length=16
   ·rw[Y2 (by rw[I,O];rfl),Y2 O]
   ·rw[Y0 (by rw[I];simp;omega),Y0 O,QzB (by omega),Qa,Qd hg];have a6:nB ys:=by
     refine Y.sub ?_;rw[J,<-Qyl];exact List.filter_sublist
    have a1:tS x∉ys:=fun h=>by
     rw[J,<-Qyl] at h;have:=(YB.1 h).2;rw[U,Qfc] at this
     cases this
    have:QzA ys (tS x)=(QuL (eR (c.Lines.map tB) x++[x])).map tS:=QzC (Qup a6.up a1) (by
     refine((Qpr ys (tS x)).map tB).trans ?_;rw[YC,Qf3,J,Qzv];exact(List.perm_append_singleton _ _).symm)
    rw[this]
    rfl
  cases hf:c.Lines.findIdx? (fun l=>kfB l==tS (Qc8 x)) with
  |none=>
   rw[hf] at hR;show bd (if decide ((-1:Int)>=0)=true then _ else _) _=_;rw[Y0 (by decide),Qa];exact G _ hR
  |some i=>
   rw[hf] at hR;have hi:=(List.findIdx?_eq_some_iff_getElem.1 hf).1;show bd (if decide ((i:Int)>=0)=true then bd (Zx c.Lines (i:Int)) _ else _) _=_;rw[Y2 (by simp),Qry hi (by omega),Qa,Qa];exact G _ hR
theorem Qym (C:CandsB b.Edition cs) (J:b.Cands=cs) {k:Nat} (hk:k<cs.length) {e:QAw} (hl:e.Line.size<=1000000) (I:atU cs e.User=some k):QbQ ⟨true,b,two lv a o,lv,la,j⟩ (k:Int) e.Line=some (Qsx ⟨true,b,two lv a o,lv,la,j⟩ e):=by
 have h3:=C.few;have hc:=C.each _ (Zb hk);have hlen:=hc.lines.len;unfold QbQ Qsx Qh0;dsimp only;rw[J,I,QwO hl,Qa];dsimp only;simp only[Y3];have O:(0:Int)<=(k:Int)∧(k:Int)<((cs.length:Nat):Int):=by omega
 cases hv:QhT (tB e.Line) with
 |none=>exact Y2 (by rfl)
 |some x=>
  dsimp only;rw[Y0 (by decide),Qd O,Jp (cs.getD k default).Lines.length (fun i=>(cs.getD k default).Lines.getD i default==tS x) (fun i=>.inl (cs.set k {(cs.getD k default) with Lines:=(cs.getD k default).Lines.eraseIdx i})) (.inr ()) (fun i hi=>?_) ?_,Qa,<-QfL (p:=fun s:Bt=>s==tS x)]
  ·cases (cs.getD k default).Lines.findIdx? fun s=>s==tS x<;>rfl
  ·rw[Y0 (by simp)]
  ·have G:(0:Int)<=(i:Int)∧(i:Int)<(((cs.getD k default).Lines.length:Nat):Int):=by omega
   rw[Y2 (Yd G.2),Qd G,Y3,Qry hi (by omega),Qa,Qd O,Qj hi (by omega)];split<;>rfl
end
theorem QlD {I xs:List Bt} (h:nB xs) (hn:I.Nodup) (hl:I.length<=100):Post (Qa8 I xs) fun K=>K.Nodup∧K.length<=I.length+xs.length:=by
 have hx:=h.len;unfold Qa8;refine .gd (by omega) (.bd (Q:=fun x=>x.2.Nodup∧x.2.length<=I.length+xs.length) (.lp (fun s=>∃i:Nat,s.2=(i:Int)∧i<=xs.length∧s.1.Nodup∧s.1.length<=I.length+i) (fun s=>xs.length-s.2.toNat) ⟨0,rfl,Yt _,hn,by simp⟩ ?_) fun x hx=>.ret hx);rintro⟨K,z⟩ ⟨i,e,hi,J,O⟩;dsimp only at e J O|-;subst e;refine .ite (fun hc=>?_) fun _=>.ret ⟨J,by dsimp only;omega⟩;have G:i<xs.length:=by have:=Yl hc;omega
 have hg:(0:Int)<=(i:Int)∧(i:Int)<((xs.length:Nat):Int):=by omega
 have U:(xs.getD i default).size<=1000000:=by have:=h.short (Zb G);omega
 rw[Qd hg,Y3,Qyh U,Qa,Qrf (by omega),Qa,Qj G (by omega)];refine .ite (fun hb=>?_) fun _=>.ret ⟨⟨i+1,rfl,G,J,by dsimp only;omega⟩,by dsimp only;omega⟩;rw[Qd hg,Qa,Qd (by rw[List.length_singleton];omega)];refine .ret ⟨⟨i+1,rfl,G,?_,by rw[Yk,List.length_singleton];omega⟩,by dsimp only;omega⟩;refine List.nodup_append.2 ⟨J,by simp,fun a ha b Y e=>?_⟩;rw[Xa.1 Y] at e;have:(K.any fun x=>x==kfB (xs.getD i default))=true:=YN.2 ⟨a,ha,by rw[e];exact Qfc _⟩;rw[this] at hb
 cases hb
theorem QzE {ls:List Bt} {k v:Bt} (h:nB ls) (e:Jc ls k=some v):v=(⟨#[]⟩:Bt)∨(QaD (tB v)=true∧kfB v=k):=by
 rw[Qn9 h] at e
 cases G:ls.findIdx? fun l=>kfB l==k with
 |none=>rw[G] at e;exact .inl (Yw e).symm
 |some i=>
  rw[G] at e;obtain rfl:=Yw e;have⟨h1,h2,_⟩:=List.findIdx?_eq_some_iff_getElem.1 G;refine .inr ⟨h.kept (Zb h1),?_⟩;have:ls.getD i default=ls[i]:=by simp[Y1,h1]
  show kfB (ls.getD i default)=k;rw[this];exact Nc.bq.1 h2
theorem Qm4 {f l t:List Bt} (hf:nB f) (hl:nB l) (ht:nB t):Post (Qae f l t) fun r=>r.2=2∨r.2=3∨nB r.1:=by
 have n1:=hf.len;have n2:=hl.len;have n3:=ht.len;unfold Qae;rw[Qhm hf,Qa,Qe (by rfl),Qhm hl,Qa,Qe (by rfl),Qhm ht,Qa,Y0 (by decide)];refine .bd (QlD hf .nil (by simp)) fun K1 ⟨d1,l1⟩=>?_;rw[Yx] at l1;refine .bd (QlD hl d1 (by omega)) fun K2 ⟨d2,l2⟩=>?_;refine .bd (QlD ht d2 (by omega)) fun K ⟨dK,lK⟩=>?_;refine .bd (Q:=fun r=>match r with| .inl _=>True| .inr x=>x.1=x.2.length∧x.2.Pairwise (fun x y=>bsl x y=true)∧(x.2.Pairwise fun x y=>kfB x≠kfB y)∧∀y∈x.2,QaD (tB y)=true) (.lp (fun s=>∃i:Nat,s.2=(i:Int)∧i<=K.length∧s.1.length<=i∧s.1.Pairwise (fun x y=>bsl x y=true)∧(s.1.Pairwise fun x y=>kfB x≠kfB y)∧∀y∈s.1,QaD (tB y)=true∧kfB y∈K.take i) (fun s=>K.length-s.2.toNat) ⟨0,rfl,Yt _,Yi _,.nil,.nil,fun y I=>by cases I⟩ ?_) ?_
 ·rintro⟨out,z⟩ ⟨i,e,hi,ho,U,O,hk⟩;dsimp only at e ho U O hk|-;subst e;refine .ite (fun hc=>?_) fun _=>.ret ⟨rfl,U,O,fun y I=>(hk y I).1⟩;have G:i<K.length:=by have:=Yl hc;omega
  have hg:(0:Int)<=(i:Int)∧(i:Int)<((K.length:Nat):Int):=by omega
  have a1:∀ {y:Bt},y∈K.take i->y∈K.take (i+1):=fun h=>(List.take_subset_take_left (l:=K) (Nat.le_succ i)) h;rw[Qd hg,Y3];refine .bd (Q:=fun v=>Jc f (K.getD i default)=some v) ⟨_,Qn9 hf,Qn9 hf⟩ fun v1 e1=>?_;rw[Qd hg];refine .bd (Q:=fun v=>Jc l (K.getD i default)=some v) ⟨_,Qn9 hl,Qn9 hl⟩ fun v2 e2=>?_;rw[Qd hg];refine .bd (Q:=fun v=>Jc t (K.getD i default)=some v) ⟨_,Qn9 ht,Qn9 ht⟩ fun v3 e3=>?_;refine .bd (Q:=fun r=>r.1=(⟨#[]⟩:Bt)∨(QaD (tB r.1)=true∧kfB r.1=K.getD i default)) ?_ fun r J=>?_
  ·unfold Qfh;exact .ite (fun _=>.ret (QzE ht e3)) fun _=>.ite (fun _=>.ret (QzE hl e2)) fun _=>.ret (.inl rfl)
  ·refine .ite (fun _=>.ret trivial) fun _=>.ite (fun a2=>?_) fun _=>.ret ⟨⟨i+1,Qj G (by omega),G,by dsimp only;omega,U,O,fun y I=>⟨(hk y I).1,a1 (hk y I).2⟩⟩,by dsimp only;rw[Qj G (by omega)];omega⟩;have J:QaD (tB r.1)=true∧kfB r.1=K.getD i default:=by
    rcases J with J|J
    ·rw[J] at a2;exact absurd a2 (by decide)
    ·exact J
   rw[QzB (by omega),Qa,Qj G (by omega)];have a3:K.getD i default=K[i]:=by simp[Y1,G]
   have Y:∀y∈out,kfB y≠kfB r.1:=fun y I e=>by
    have h1:=(hk y I).2;rw[e,J.2,a3] at h1;have⟨j,hj,ej⟩:=List.mem_take_iff_getElem.1 h1;have:=X8.1 dK j i (by omega) G (by omega);exact this ej
   have hp:=Qpr out r.1;refine .ret ⟨⟨i+1,rfl,G,by have:=hp.length_eq;rw[Ye] at this;dsimp only;omega,Qup U fun h=>Y _ h rfl,?_,fun y I=>?_⟩,by dsimp only;omega⟩
   ·exact hp.symm.pairwise (YS.2 ⟨fun y I e=>Y y I e.symm,O⟩) fun h e=>h e.symm
   ·rcases Yh.1 (hp.mem_iff.1 I) with rfl|I
    ·refine⟨J.1,?_⟩;rw[J.2,a3];exact List.mem_take_iff_getElem.2 ⟨i,by omega,rfl⟩
    ·exact⟨(hk y I).1,a1 (hk y I).2⟩
 ·rintro(_|⟨n,ys⟩) hx
  ·exact .ret (.inl rfl)
  ·have⟨h1,h2,h3,h4⟩:=hx;dsimp only at h1 h2 h3 h4|-;refine .ite (fun _=>.ret (.inr (.inl rfl))) fun hn=>.ret (.inr (.inr ?_));have a4:ys.length<=16:=by
    have:¬((n:Int)>16):=fun e=>hn (Yd e);omega
   refine Qqt (by rw[Ya];exact a4) (fun l hl=>?_) (X5.2 (h3.imp fun {x y} h e=>h (congrArg tS e))) (X5.2 (h2.imp fun {x y} h=>by rw[Qjp] at h;exact Yl h));obtain⟨s,hs,rfl⟩:=YI.1 hl;exact h4 s hs
noncomputable def Qwb:Mrg:=fun f l t=>(Qae f l t).getD ([],1)
noncomputable def QwP:May:=fun x y u=>(Qa9 x y u).getD false
theorem QlE {α:Type} {m:Option α} {d:α} {Q:α->Prop} (h:Post m Q):m=some (m.getD d)∧Q (m.getD d):=by
 have⟨x,e,G⟩:=h;rw[e];exact⟨rfl,G⟩
theorem Qyn:MrgOk Qwb:=⟨fun _ _ _ G hl ht=>(QlE (Qm4 G hl ht)).2⟩
theorem Qyo {f l t:List Bt} (G:nB f) (hl:nB l) (ht:nB t):Qae f l t=some (Qwb f l t):=(QlE (Qm4 G hl ht)).1
theorem Quq {x y:List Bt} (hx:nB x) (Y:nB y):Post (QcA x y) fun r=>r.length<=32∧∀s∈r,s.size<=1000:=by
 have n1:=hx.len;have n2:=Y.len;unfold QcA;rw[Qhm hx,Qa,Qe (by rfl),Qhm Y,Qa,Y0 (by decide)];have two:(⟨#[45,32]⟩:Bt).size=2∧(⟨#[43,32]⟩:Bt).size=2:=⟨rfl,rfl⟩;refine .bd (Q:=fun r=>r.2.length<=32∧∀s∈r.2,s.size<=1000) (.lp (fun s=>∃i k:Nat,s.2.1=(i:Int)∧s.2.2=(k:Int)∧i<=x.length∧k<=y.length∧s.1.length<=i+k∧∀z∈s.1,z.size<=1000) (fun s=>(x.length-s.2.1.toNat)+(y.length-s.2.2.toNat)) ⟨0,0,rfl,rfl,Yt _,Yt _,Yi _,fun z hz=>by cases hz⟩ ?_) fun r hr=>.ret hr;rintro⟨out,z1,z2⟩ ⟨i,k,e1,e2,hi,hk,ho,hs⟩;dsimp only at e1 e2 ho hs|-;subst e1 e2;refine .ite (fun hc=>?_) fun _=>.ret ⟨by dsimp only;omega,hs⟩;have hc:i<x.length∨k<y.length:=by simpa using hc
 have app:∀s:Bt,s.size<=1000->∀w∈out++[s],w.size<=1000:=fun s h w O=>by
  rcases Yo.1 O with O|O
  ·exact hs w O
  ·rw[Xa.1 O];exact h
 refine .gd (fun h _=>⟨by omega,Yl h⟩) (.gd (fun _ h=>by simp at h;omega) (.ite (fun hb=>?_) fun hb=>?_))
 ·have I:i<x.length:=by
   by_cases h:k=y.length
   ·omega
   ·simp[h] at hb;omega
  have:=hx.short (Zb I);rw[Y3,Qj I (by omega)];exact .gd (by omega) (.gd (by omega) (.gd (by rw[List.length_singleton];omega) (.ret ⟨⟨i+1,k,rfl,rfl,I,hk,by rw[Yk,List.length_singleton];omega,app _ (by rw[XY];omega)⟩,by dsimp only;omega⟩)))
 ·have G:k<y.length:=by
   by_cases h:k=y.length
   ·simp[h] at hb
   ·omega
  have:=Y.short (Zb G);refine .gd (fun _=>by omega) (.gd (fun h=>by simp at h;omega) (.ite (fun J=>?_) fun J=>?_))
  ·rw[Y3,Y3,Qj G (by omega)];exact .gd (by omega) (.gd (by omega) (.gd (by rw[List.length_singleton];omega) (.ret ⟨⟨i,k+1,rfl,rfl,hi,G,by rw[Yk,List.length_singleton];omega,app _ (by rw[XY];omega)⟩,by dsimp only;omega⟩)))
  ·have U:i<x.length:=by
    by_cases h:i=x.length
    ·simp[h] at J
    ·omega
   rw[Qj G (by omega),Qj U (by omega)];exact .ret ⟨⟨i+1,k+1,rfl,rfl,U,G,by dsimp only;omega,hs⟩,by dsimp only;omega⟩
theorem Qps {s:Bt} {n:Int} (h:s.size<=1000000) (I:0<=n):Post (QbR s n) fun r=>r.size<=1000:=by
 have G:=Qkq (l:=tB s) (by rw[Qiz];omega);rw[QfF] at G;unfold QbR;rw[G,Qa]
 cases hc:Qe8 (tB s) with
 |none=>
  dsimp only;exact .ite (fun h=>by simp at h;omega) fun _=>.ret (by decide)
 |some ws=>
  dsimp only;refine .ite (fun h=>?_) fun _=>.ret (by decide);have h:=Yl h;refine .gd ⟨I,h⟩ (.ret ?_);rw[Ya] at h;rw[ZM (by omega),QaT];have:=(QcU hc).short _ (QaC (xs:=ws) (i:=n.toNat) (by omega));omega
theorem Qur {x y:List Bt} (I:nB x) (O:nB y) {u:Bt} (U:u.size<=1000000):Post (Qa9 x y u) fun _=>True:=by
 unfold Qa9;rw[Qhm I,Qa,Qe (by rfl),Qhm O,Qa,Qe (by rfl),QwN U,Qa];refine .ite (fun _=>.ret trivial) fun _=>.gd (by have:(⟨#[117,115,101,114,32]⟩:Bt).size=5:=rfl;omega) (.bd (Q:=fun v=>v.size<=1000) ⟨_,Qn9 I,?_⟩ fun v hv=>.ite (fun _=>.ret trivial) fun _=>.bd (Qps (by omega) (by omega)) fun w hw=>.bd (Quq I O) fun d ⟨hd,J⟩=>?_)
 ·cases Y:x.findIdx? fun l=>kfB l==(⟨#[117,115,101,114,32]⟩:Bt)++u with
  |none=>show(⟨#[]⟩:Bt).size<=1000;decide
  |some i=>
   have h1:=(List.findIdx?_eq_some_iff_getElem.1 Y).1;have:=I.short (Zb h1);dsimp only;omega
 ·refine .bd (Q:=fun _=>True) (.lp (fun s=>∃i:Nat,s=(i:Int)) (fun s=>d.length-s.toNat) ⟨0,rfl⟩ ?_) ?_
  ·rintro _ ⟨i,rfl⟩;refine .ite (fun hc=>?_) fun _=>.ret trivial;have hi:i<d.length:=by have:=Yl hc;omega
   have G:Post (QdI w 44) fun r=>r.length<=2000:=by
    refine⟨(Qcm 44 (tB w)).map tS,?_,?_⟩
    ·have:=Qre (l:=tB w) 44 (by rw[Qiz];omega);rw[QfF] at this;exact this
    ·have:=QfI 44 (tB w);rw[Qiz] at this;show((Qcm 44 (tB w)).map tS).length<=2000;rw[Ya];omega
   refine .bd (Q:=fun r=>r.length<=2000) (.gcall (fun _=>G) fun _=>Yt _) fun c hcl=>.gd (fun _=>by omega) (.bd (Q:=fun _=>True) (.gcall (fun _=>(Qps (by have:=J _ (Zb hi);rw[Y3];omega) (by omega)).mono fun _ _=>trivial) fun _=>trivial) fun w2 _=>.bd (Q:=fun _=>True) (.gcall (fun _=>by rw[Qrf (by omega)];exact .ret trivial) fun _=>trivial) fun _ _=>.ite (fun _=>.ret trivial) fun _=>.ret ?_);rw[Qj hi (by omega)];exact⟨⟨i+1,rfl⟩,by rw[Y3,Y3];omega⟩
  ·rintro(_|_) _<;>exact .ret trivial
theorem Qyp {x y:List Bt} (J:nB x) (I:nB y) {u:Bt} (G:u.size<=1000000):Qa9 x y u=some (QwP x y u):=(QlE (Qur J I G)).1
section
variable {lv la:Int} {a o:QAu} {cs:List QAr} {b:QAs} {j:QAt}
theorem Qus (D:Disk lv la a o) (C:CandsB b.Edition cs) (P:Phase la a o cs b j) {k:Nat} (hk:k<cs.length) {u:Bt} (G:atU cs u=some k):QaW ⟨true,b,two lv a o,lv,la,j⟩ (k:Int)=some (Qjo Qwb ⟨true,b,two lv a o,lv,la,j⟩ u):=by
 have hc:=C.each _ (Zb hk);have J:=(P.force D).neat
 have I:(0:Int)<=(k:Int)∧(k:Int)<((cs.length:Nat):Int):=by omega
 unfold QaW Qjo Qh0;dsimp only;rw[P.cands,G,Qd I];dsimp only;simp only[Y3];rw[Qyo hc.rows hc.lines J,Qa]
 by_cases h2:(Qwb (cs.getD k default).From (cs.getD k default).Lines b.Lines).2=2
 ·rw[Y2 (by simpa using h2),Y2 h2]
 rw[Y0 (by simpa using h2),Y0 h2]
 by_cases h3:(Qwb (cs.getD k default).From (cs.getD k default).Lines b.Lines).2=3
 ·rw[Y2 (by simpa using h3),Y2 h3]
 ·rw[Y0 (by simpa using h3),Y0 h3,Qd I,Qa]
  rfl
theorem Qut (D:Disk lv la a o) (C:CandsB b.Edition cs) (P:Phase la a o cs b j) {k:Nat} (hk:k<cs.length) {u:Bt} (hu:u.size<=1000000) (t:Int) (G:atU cs u=some k):QaX ⟨true,b,two lv a o,lv,la,j⟩ (k:Int) t=some (Qbz QwP ⟨true,b,two lv a o,lv,la,j⟩ u t):=by
 have hc:=C.each _ (Zb hk);have h3:=C.few;have hF:=(P.force D).neat
 have hE:=P.ed D;have Y:(0:Int)<=(k:Int)∧(k:Int)<((cs.length:Nat):Int):=by omega
 have hj:decide (j.Kind>0)=decide (j.Kind≠0):=by cases P with
  |trial T k ht h1 h9 hk=>rcases hk with rfl|rfl<;>rfl
  |_=>rfl
 have⟨_,U,_⟩:=Qh1 G
 have J:Zu (cs.getD k default).Lines=some (Qbj ((cs.getD k default).Lines.map tB)):=by
  have:=QnY (ls:=(cs.getD k default).Lines.map tB) hc.lines.short' (by rw[Ya];have:=hc.lines.len;omega);rwa[Qpo] at this
 unfold QaX QbM Qbz Qh0;dsimp only;rw[P.cands,G,Qd Y,hj];dsimp only;simp only[Y3];have O:QT t 0 9=some (decide (0<=t)&&decide (t<=9)):=rfl;rw[O,Qa,J,U,Qyp hF hc.lines hu]
 by_cases h1:0<=t∧t<=9
 rotate_left
 ·rw[Y2 (show(!(decide (0<=t)&&decide (t<=9)))=true by simp;omega),Y2 h1,Qa]
  rfl
 rw[Y0 (show ¬((!(decide (0<=t)&&decide (t<=9)))=true) by simp;omega),Y0 (show ¬ ¬(0<=t∧t<=9) from fun h=>h h1)]
 by_cases h2:j.Kind=0
 rotate_left
 ·rw[Y2 (show decide (j.Kind≠0)=true by simpa using h2),Y2 (show j.Kind≠0 from h2),Qa]
  rfl
 rw[Y0 (show ¬(decide (j.Kind≠0)=true) by simpa using h2),Y0 (show ¬(j.Kind≠0) from fun h=>h h2)]
 by_cases h4:b.Trial>0
 ·rw[Y2 (show decide (b.Trial>0)=true from Yd h4),Y2 h4,Qa]
  rfl
 rw[Y0 (show ¬(decide (b.Trial>0)=true) by simpa using h4),Y0 h4]
 by_cases h5:(cs.getD k default).Base=b.Edition
 rotate_left
 ·rw[Y2 (show((cs.getD k default).Base !=b.Edition)=true by simpa using h5),Y2 (show(cs.getD k default).Base≠b.Edition from h5),Qa]
  rfl
 rw[Y0 (show ¬(((cs.getD k default).Base !=b.Edition)=true) by simpa using h5),Y0 (show ¬((cs.getD k default).Base≠b.Edition) from fun h=>h h5),Qa]
 by_cases h6:Qbj ((cs.getD k default).Lines.map tB)=0
 rotate_left
 ·rw[Y2 (show(Qbj ((cs.getD k default).Lines.map tB) !=0)=true by simpa using h6),Y2 (show Qbj ((cs.getD k default).Lines.map tB)≠0 from h6),Qa]
  rfl
 rw[Y0 (show ¬((Qbj ((cs.getD k default).Lines.map tB) !=0)=true) by simpa using h6),Y0 (show ¬(Qbj ((cs.getD k default).Lines.map tB)≠0) from fun h=>h h6),Qa]
 cases hm:QwP b.Lines (cs.getD k default).Lines u
 ·rw[Y2 (show(!false)=true from rfl),Y2 rfl,Qa]
  rfl
 rw[Y0 (show ¬((!true)=true) by decide),Y0 (show ¬(true=false) by decide)]
 by_cases I:b.Edition>=1000000
 ·rw[Y2 (show decide (b.Edition>=1000000)=true from Yd I),Y2 I,Qa]
  rfl
 rw[Y0 (show ¬(decide (b.Edition>=1000000)=true) by simpa using I),Y0 I,Qa];have e:IntKind.i64.wrap ((k:Int)+1)=((k+1:Nat):Int):=Qj hk (by omega);have hd:QgL ((cs.length:Nat):Int) ((k+1:Nat):Int)=cs.length-(k+1):=by rw[Q5];omega
 rw[Y0 (show ¬(((0:Int) !=0)=true) by decide),Qd Y,e,hd,Y3,Qd (by omega),Qd (by omega),Qd (by omega),Qd (by rw[Yn];omega),show k+1+(cs.length-(k+1))=cs.length by omega,YZ,<-List.eraseIdx_eq_take_drop_succ,Qm (n:=b.Edition+1) (by omega) (by omega)]
theorem QzF (D:Disk lv la a o) (C:CandsB b.Edition cs) (P:Phase la a o cs b j) {e:QAw} (J:e.User.size<=1000000) (hl:e.Line.size<=1000000) (hk:2<=e.Kind∧e.Kind<=5):QdW ⟨true,b,two lv a o,lv,la,j⟩ e=some (if e.Kind=2 then QyP ⟨true,b,two lv a o,lv,la,j⟩ e else if e.Kind=3 then Qsx ⟨true,b,two lv a o,lv,la,j⟩ e else if e.Kind=4 then Qjo Qwb ⟨true,b,two lv a o,lv,la,j⟩ e.User else Qbz QwP ⟨true,b,two lv a o,lv,la,j⟩ e.User e.N):=by
 have h3:=C.few;have hc:=P.cands;unfold QdW;dsimp only;rw[Quo (by rw[hc];omega),Qa,hc]
 cases G:atU cs e.User with
 |none=>
  have I:∀f,Qh0 ⟨true,b,two lv a o,lv,la,j⟩ e.User f=(⟨true,b,two lv a o,lv,la,j⟩,3):=fun f=>by
   unfold Qh0;dsimp only;rw[hc,G]
  unfold QyP Qsx Qjo Qbz;rw[I,I,I,I];show(if decide ((-1:Int)<0)=true then _ else _)=_;rw[Y2 (by decide)];simp only[ite_self]
 |some k=>
  have⟨h1,h2,_⟩:=Qh1 G
  show(if decide ((k:Int)<0)=true then _ else _)=_;rw[Y0 (by simp)];show(if(e.Kind==2)=true then bd (Qcz _ (k:Int) _) _ else if(e.Kind==3)=true then bd (QbQ _ (k:Int) _) _ else if(e.Kind==4)=true then bd (QaW _ (k:Int)) _ else bd (QaX _ (k:Int) _) _)=_;rw[QzD C hc h1 hl G,Qym C hc h1 hl G,Qus D C P h1 G,Qut D C P h1 J e.N G];simp only[Qa,X4];split
  ·rfl
  ·split
   ·rfl
   ·split<;>rfl
end
structure EvS (e:QAw):Prop where
 user:e.User.size≤1000000
 line:e.Line.size≤1000000
theorem QAd {s:QAv} (h:Ok s) {e:QAw} (O:EvS e):JJ s e=some (doV Qwb QwP s e):=by
 have a1:QT e.Kind 1 10=some (decide (1<=e.Kind)&&decide (e.Kind<=10)):=rfl;unfold JJ doV;rw[a1,Qa]
 by_cases hk:1<=e.Kind∧e.Kind<=10
 rotate_left
 ·rw[Y2 (show(!(decide (1<=e.Kind)&&decide (e.Kind<=10)))=true by simp;omega),Y2 hk]
 rw[Y0 (show ¬((!(decide (1<=e.Kind)&&decide (e.Kind<=10)))=true) by simp;omega),Y0 (show ¬ ¬(1<=e.Kind∧e.Kind<=10) from fun h=>h hk)]
 by_cases I:s.Up=(e.Kind==10)
 ·rw[Y2 (show(s.Up==(e.Kind==10))=true by rw[I];simp),Y2 I]
 rw[Y0 (show ¬((s.Up==(e.Kind==10))=true) by simpa using I),Y0 I]
 cases h with
 |down lv la a o D=>
  have G:e.Kind=10:=by
   cases G:(e.Kind==10)
   ·exact absurd (G▸rfl) I
   ·simpa using G
  rw[G,Qyk D]
  rfl
 |up lv la a o cs b j D C P=>
  have G:e.Kind≠10:=fun e1=>I (by rw[e1];rfl);simp only[X4]
  by_cases Y:e.Kind=1
  ·rw[Y2 Y,Y2 Y,Qv8 D C P O.user]
   rfl
  rw[Y0 Y,Y0 Y]
  by_cases k6:e.Kind=6
  ·rw[Y2 k6,k6,Qsz D P O.user]
   rfl
  rw[Y0 k6]
  by_cases k7:e.Kind=7
  ·rw[Y2 k7,k7,Qyj D P]
   rfl
  rw[Y0 k7]
  by_cases k8:e.Kind=8
  ·rw[Y2 k8,k8,Qwa D P]
   rfl
  rw[Y0 k8]
  by_cases k9:e.Kind=9
  ·rw[Y2 k9,k9]
   rfl
  rw[Y0 k9,Y0 G,QzF D C P O.user O.line (by omega),Qa]
  by_cases k2:e.Kind=2
  ·rw[Y2 k2,Y2 k2]
  rw[Y0 k2,Y0 k2]
  by_cases U:e.Kind=3
  ·rw[Y2 U,Y2 U]
  rw[Y0 U,Y0 U]
  by_cases J:e.Kind=4
  ·rw[Y2 J,Y2 J]
  rw[Y0 J,Y0 J,Y2 (show e.Kind=5 by omega)]
theorem Quu {s:QAv} (h:Ok s) {e:QAw} (I:EvS e):QdX s e=some (doV Qwb QwP s e)∧Ok (doV Qwb QwP s e).1:=by
 have G:=Qzx (may:=QwP) (e:=e) Qyn h;refine⟨?_,G⟩;unfold QdX;rw[QAc h,Qa,Y0 (by decide),Qqx h.few,Qa,QAd h I,Qa,Qqx G.few,Qa]
theorem QsA {b:List Int} (hb:b.length<=1048576) (h:∀x∈b,Qmc x):Post (Qc9 b) fun r=>Rq r.b r.p 0:=by
 unfold Qc9;refine .ite (fun hc=>.gd (by have:=Yl hc;omega) (.ret ?_)) fun hc=>.ret ?_
 ·exact⟨fun x G=>h x (Xg G),by dsimp only;rw[Yn];omega,X7 _,X7 _⟩
 ·have:¬(((b.length:Nat):Int)>2000):=fun e=>hc (Yd e);exact⟨h,by dsimp only;omega,X7 _,X7 _⟩
theorem cB.sm {xs:List Bt} (h:cB xs):Sm xs 16:=⟨h.neat.len,fun s hs=>by have:=h.neat.short hs;omega⟩
theorem Qrz {xs:List Bt} {s:Bt} (h:cB xs) (hs:s.size<=1000):Post (QaI xs s) cB:=by
 have hm:=h.sm;unfold QaI;refine .bd (Qrt (by omega)) fun k _=>.bd (Qsu hm (by omega)) fun i hi=>.bd (Q:=fun r=>Sm r 16) (.ite (fun hc=>.bd (Qpl hm (by omega) (Yl hc) hi) fun r I=>.ret I) fun _=>.ret hm) fun r I=>.bd (QvX I (by omega) hs) fun q J=>?_;have G:=QnY (ls:=q.map tB) (fun l hl=>by
  obtain⟨s,hs,rfl⟩:=YI.1 hl;have:=J.short s hs;rw[Qiz];omega) (by rw[Ya];have:=J.few;omega)
 rw[Qpo] at G;rw[G,Qa];refine .ite (fun O=>.ret ?_) fun _=>.ret h;have:Qbj (q.map tB)=0:=by simpa using O
 exact this
theorem QsB {b:List Int} {p k:Int} (h:Rq b p k) (hk:k<=1000):Post (Qdi ⟨b,p⟩) fun x=>cB x.1∧Rq b x.2.p (k+600):=by
 unfold Qdi;have s0:cB [(⟨#[117,115,101,114,32,97,110,110,32,97,108,108]⟩:Bt)]:=by
  show Qbj [[117,115,101,114,32,97,110,110,32,97,108,108]]=0
  kernel_rfl
 refine .bd (Q:=fun x=>cB x.2∧Rq b x.1 (k+1)) (.bd (pk5 h (by omega) (by omega)) ?_) ?_
 ·rintro x ⟨_,G⟩;refine .ite (fun _=>.bd (Qrz s0 (by rw[Quh,XH];simp only[Ye,Yx];omega)) fun ls hs=>.ret ⟨hs,G⟩) fun _=>.ret ⟨s0,G⟩
 ·rintro⟨p1,l1⟩ ⟨s1,h1⟩;dsimp only at s1 h1|-;refine .bd (Q:=fun x=>cB x.2∧Rq b x.1 (k+3)) (.bd (pk5 h1 (by omega) (by omega)) ?_) ?_
  ·rintro x ⟨_,G⟩;refine .ite (fun _=>.bd (of5 G (by omega) (by kernel_rfl)) ?_) fun _=>.ret ⟨s1,G.mono (by omega)⟩;rintro y ⟨hy,hr⟩;refine .gd (by simp only[Quh,XH,Ye,Yx];omega) (.bd (Qrz s1 (by simp only[XY,Quh,XH,Ye,Yx];omega)) fun ls hs=>.ret ⟨hs,hr.mono (by omega)⟩)
  ·rintro⟨p2,l2⟩ ⟨s2,h2⟩;dsimp only at s2 h2|-;refine .bd (Q:=fun x=>cB x.2∧Rq b x.1 (k+4)) (.bd (pk5 h2 (by omega) (by omega)) ?_) ?_
   ·rintro x ⟨_,G⟩;refine .ite (fun _=>.bd (Qrz s2 (by rw[Quh,XH];simp only[Ye,Yx];omega)) fun ls hs=>.ret ⟨hs,G.mono (by omega)⟩) fun _=>.ret ⟨s2,G.mono (by omega)⟩
   ·rintro⟨p3,l3⟩ ⟨s3,h3⟩;dsimp only at s3 h3|-;refine .bd (pk5 h3 (by omega) (by omega)) ?_;rintro⟨n,r4⟩ ⟨⟨U,a3⟩,O⟩;dsimp only at U a3 O|-;refine .bd (Q:=fun x=>(0<=x.2∧x.2<=40)∧Rq b x.1 (k+6)) (.bd (pk5 O (by omega) (by omega)) ?_) ?_
    ·rintro x ⟨_,G⟩;refine .ite (fun _=>.ret ⟨⟨by dsimp only;omega,by dsimp only;omega⟩,G.mono (by omega)⟩) fun _=>.ret ⟨⟨U,by dsimp only;omega⟩,G.mono (by omega)⟩
    ·rintro⟨p5,m⟩ ⟨⟨Y,a1⟩,h5⟩;dsimp only at Y a1 h5|-;refine .bd (Q:=fun x=>cB x.1∧Rq b x.2 (k+600)) (.lp (fun s=>∃i:Nat,s.2.2=(i:Int)∧i<=40∧cB s.2.1∧Rq b s.1 (k+6+12*((40:Int) -i))) (fun s=>s.2.2.toNat) ⟨m.toNat,by dsimp only;omega,by omega,s3,h5.mono (by omega)⟩ ?_) ?_
     ·rintro⟨p6,ls6,z⟩ ⟨i,e,hi,I,J⟩;dsimp only at e I J|-;subst e;refine .ite (fun hc=>?_) fun _=>.ret ⟨I,J.mono (by omega)⟩;have hc:=Yl hc;have ew:IntKind.i64.wrap ((i:Int) -1)=((i-1:Nat):Int):=(Qm (by omega) (by omega)).trans (by omega);refine .bd (QiF J (by omega)) ?_;rintro x ⟨G,a4⟩;refine .bd (Qrz I (by omega)) fun ls7 a2=>.ret ⟨⟨i-1,ew,by omega,a2,a4.mono (by omega)⟩,?_⟩;dsimp only;rw[ew];omega
     ·rintro x ⟨h6,h7⟩;exact .ret ⟨h6,h7⟩
theorem Qjq {b:List Int} {p k:Int} (h:Rq b p k) (hk:k<=900000):Post (Qa5 ⟨b,p⟩) fun x=>x.1.size<=60∧Rq b x.2.p (k+1):=by
 unfold Qa5;exact .bd (of5 h (by omega) (by kernel_rfl)) fun x G=>.ret G
structure DrS (s:QAv):Prop where
 few:s.Box.Cands.length≤3
 each:∀c∈s.Box.Cands,c.User.size≤1000∧c.Lines.length≤16∧∀l∈c.Lines,l.size≤200
theorem Ok.dr {s:QAv} (h:Ok s):DrS s:=by
 cases h with
 |down lv la a o D=>exact⟨Yt _,fun c hc=>by cases hc⟩
 |up lv la a o cs b j D C P=>
  refine⟨by dsimp only;rw[P.cands];exact C.few,fun c hc=>?_⟩;dsimp only at hc;rw[P.cands] at hc;have h1:=C.each c hc;refine⟨?_,h1.lines.len,fun l hl=>h1.lines.short hl⟩;have:=h1.name;unfold Qc6 at this;simp[inI] at this;omega
theorem ev0 {k n:Int}:EvS ⟨k,ByteArray.empty,ByteArray.empty,n⟩:=⟨Yt _,Yt _⟩
theorem QsC {s:QAv} (hs:DrS s) {b:List Int} {p k:Int} (h:Rq b p k) (hk:k<=800000):Post (Qcu ⟨b,p⟩ s) fun x=>EvS x.1∧Rq b x.2.p (k+30):=by
 have h3:=hs.few;unfold Qcu;have Y:∀ {q k':Int},Rq b q k'->k'<=900000->0<s.Box.Cands.length->Post (bd (Ql ⟨b,q⟩ ((s.Box.Cands.length:Nat):Int)) fun O=>gd ((0:Int)<=O.1∧O.1<((s.Box.Cands.length:Nat):Int))<|some (O.2.p,(s.Box.Cands.getD O.1.toNat default).User)) fun x=>x.2.size<=1000∧Rq b x.1 (k'+1):=fun hq hk I=>.bd (pk5 hq (by omega) (by omega)) fun O ⟨g6,h6⟩=>.gd g6 (.ret ⟨(hs.each _ (Zb (by omega))).1,h6⟩);refine .bd (Qjq h (by omega)) fun x1 ⟨hu1,h1⟩=>.bd (Q:=fun x=>x.2.size<=1000∧Rq b x.1 (k+3)) (.ite (fun h0=>.bd (pk5 h1 (by omega) (by omega)) fun x5 ⟨_,h5⟩=>.ite (fun hc=>(Y h5 (by omega) (by have:=Yl h0;omega)).mono fun x hx=>⟨hx.1,hx.2.mono (by omega)⟩) fun _=>.ret ⟨by dsimp only;omega,h5.mono (by omega)⟩) fun h0=>.ite (fun hc=>absurd (by simp at hc|-;omega) h0) fun _=>.ret ⟨by dsimp only;omega,h1.mono (by omega)⟩) fun x2 ⟨hu2,h2⟩=>?_;refine .bd (pk5 h2 (by omega) (by omega)) fun x8 ⟨g8,G⟩=>?_;refine .bd (Q:=fun _=>True) (.ite (fun _=>.ret trivial) fun _=>.ite (fun _=>.ret trivial) fun _=>.ret trivial) fun x9 _=>?_;refine .ite (fun _=>.ret ⟨⟨by dsimp only;omega,Yt _⟩,G.mono (by omega)⟩) fun _=>?_;refine .bd (Q:=fun _=>True) (.ite (fun _=>.ret trivial) fun _=>.ite (fun _=>.ret trivial) fun _=>.ret trivial) fun x12 _=>?_;refine .ite (fun _=>.bd (QiF G (by omega)) fun x15 ⟨hl,a8⟩=>.ret ⟨⟨by dsimp only;omega,by dsimp only;omega⟩,a8.mono (by omega)⟩) fun _=>?_;refine .ite (fun _=>.bd (QiF G (by omega)) fun x16 ⟨hl,J⟩=>.bd ⟨_,Quo (by omega),rfl⟩ fun x17 a4=>?_) fun _=>?_
 ·subst a4;have a6:∀i,atU s.Box.Cands x2.2=some i->i<s.Box.Cands.length:=fun i hi=>(Qh1 hi).1
  cases hA:atU s.Box.Cands x2.2 with
  |none=>
   refine .gd (fun e=>absurd e (by decide)) (.ite (fun e=>?_) fun _=>.ret ⟨⟨by dsimp only;omega,by dsimp only;omega⟩,J.mono (by omega)⟩);exact absurd e (by simp[atI])
  |some i=>
   have hi:=a6 i hA;have hg:(0:Int)<=(i:Int)∧(i:Int)<((s.Box.Cands.length:Nat):Int):=by omega
   have⟨e1,e2,e3⟩:=hs.each _ (Zb hi);show Post (gd (decide ((i:Int)>=0)=true->_) _) _;refine .gd (fun _=>hg) (.ite (fun hc=>?_) fun _=>.ret ⟨⟨by dsimp only;omega,by dsimp only;omega⟩,J.mono (by omega)⟩);simp only[Y4,Ym] at hc;have I:=hc.2;show Post (gd ((0:Int)<=(i:Int)∧(i:Int)<_) _) _;refine .gd hg (.gd hg (.bd (pk5 J (by omega) (by simp only[atI,Y3] at I|-;omega)) fun a7 ⟨U,b2⟩=>.gd U (.ret ⟨⟨by dsimp only;omega,?_⟩,b2.mono (by omega)⟩)));have:=e3 _ (Zb (xs:=(s.Box.Cands.getD i default).Lines) (i:=a7.1.toNat) (by
    have:=U.2;simp only[atI,Y3] at this;omega))
   dsimp only;simp only[atI,Y3];omega
 refine .bd (Q:=fun _=>True) (.ite (fun _=>.ret trivial) fun _=>.ret trivial) fun x23 _=>?_;refine .ite (fun _=>.ret ⟨⟨by dsimp only;omega,Yt _⟩,G.mono (by omega)⟩) fun _=>?_;refine .bd (Q:=fun _=>True) (.ite (fun _=>.ret trivial) fun _=>.ite (fun _=>.ret trivial) fun _=>.ite (fun _=>.ret trivial) fun _=>.ret trivial) fun x26 _=>?_;refine .ite (fun _=>.bd (pk5 G (by omega) (by omega)) fun x29 ⟨a1,a3⟩=>.gd ⟨a1.1,a1.2⟩ (.ret ⟨⟨by dsimp only;omega,Yt _⟩,a3.mono (by omega)⟩)) fun _=>?_;refine .ite (fun _=>.bd (pk5 G (by omega) (by omega)) fun x31 ⟨_,a5⟩=>.bd (pk5 a5 (by omega) (by omega)) fun x32 ⟨_,a9⟩=>.ret ⟨⟨by dsimp only;omega,Yt _⟩,a9.mono (by omega)⟩) fun _=>?_;refine .bd (Q:=fun _=>True) (.ite (fun _=>.ret trivial) fun _=>.ret trivial) fun x33 _=>?_;refine .ite (fun _=>.ret ⟨ev0,G.mono (by omega)⟩) fun _=>?_;refine .ite (fun _=>.bd (pk5 G (by omega) (by omega)) fun x36 ⟨_,a2⟩=>.ite (fun _=>.ret ⟨ev0,a2.mono (by omega)⟩) fun _=>.ret ⟨ev0,a2.mono (by omega)⟩) fun _=>?_;exact .ite (fun _=>.ret ⟨ev0,G.mono (by omega)⟩) fun _=>.ret ⟨ev0,G.mono (by omega)⟩
structure EvL (l:List QAw):Prop where
 few:l.length≤100
 each:∀e∈l,EvS e
theorem Quv {s:QAv} (hs:DrS s) {b:List Int} {p k:Int} (h:Rq b p k) (hk:k<=700000):Post (Qdj ⟨b,p⟩ s) fun x=>EvL x.1∧Rq b x.2.p (k+60):=by
 unfold Qdj;have one:∀(l:List QAw) (n:Nat),l.length<=n->(∀e∈l,EvS e)->(l++[(⟨8,ByteArray.empty,ByteArray.empty,0⟩:QAw)]).length<=n+1∧∀e∈l++[(⟨8,ByteArray.empty,ByteArray.empty,0⟩:QAw)],EvS e:=fun l n hl G=>⟨by rw[Yk,List.length_singleton];omega,fun e hm=>by
  rcases Yo.1 hm with hm|hm
  ·exact G e hm
  ·rw[Xa.1 hm];exact ev0⟩
 refine .bd (QsC hs h (by omega)) fun x1 ⟨e1,h1⟩=>.bd (pk5 h1 (by omega) (by omega)) fun x2 ⟨_,h2⟩=>.ite (fun _=>.bd (Q:=fun x=>EvL x.2) (.lp (fun t=>∃i:Nat,t.2=(i:Int)∧i<=19∧t.1.length<=i+1∧∀e∈t.1,EvS e) (fun t=>19-t.2.toNat) ⟨0,rfl,by omega,by simp,fun e G=>by rw[Xa.1 G];exact e1⟩ ?_) fun x hx=>.ret ⟨hx,h2.mono (by omega)⟩) fun _=>.ite (fun _=>?_) fun _=>.ite (fun _=>.bd (Qjq h2 (by omega)) fun x20 ⟨hu,a2⟩=>.gd (by simp only[Ye,Yx];omega) (.ret ⟨⟨by simp,fun e G=>?_⟩,a2.mono (by omega)⟩)) fun _=>.ret ⟨⟨by simp,fun e G=>by rw[Xa.1 G];exact e1⟩,h2.mono (by omega)⟩
 ·rintro⟨l,z⟩ ⟨i,e,hi,hl,G⟩;dsimp only at e hl G|-;subst e;refine .ite (fun hc=>?_) fun _=>.ret ⟨by dsimp only;omega,G⟩;have hc:=Yl hc;have⟨o1,U⟩:=one l (i+1) hl G;rw[Qj (n:=19) (by omega) (by omega)];exact .gd (by rw[List.length_singleton];omega) (.ret ⟨⟨i+1,rfl,by omega,o1,U⟩,by dsimp only;omega⟩)
 ·refine .bd (Qjq h2 (by omega)) fun x9 ⟨hu,h9⟩=>.bd (QiF h9 (by omega)) fun x10 ⟨hl,I⟩=>.bd (pk5 I (by omega) (by omega)) fun x11 ⟨_,J⟩=>.bd (pk5 J (by omega) (by omega)) fun x12 ⟨_,Y⟩=>.bd (pk5 Y (by omega) (by omega)) fun a1 ⟨g13,O⟩=>.bd (Q:=fun x=>EvL x.2) (.lp (fun t=>∃i:Nat,t.2=(i:Int)∧i<=20∧t.1.length<=30-i∧∀e∈t.1,EvS e) (fun t=>t.2.toNat) ⟨a1.1.toNat,by dsimp only;omega,by omega,by simp only[Ye,Yx];omega,fun e G=>?_⟩ ?_) fun x hx=>.ret ⟨hx,O.mono (by omega)⟩
  ·simp only[Yh,List.not_mem_nil,or_false] at G;rcases G with rfl|rfl|rfl
   ·exact⟨by dsimp only;omega,Yt _⟩
   ·exact⟨by dsimp only;omega,by dsimp only;omega⟩
   ·exact⟨by dsimp only;omega,Yt _⟩
  ·rintro⟨l,z⟩ ⟨i,e,hi,hl,G⟩;dsimp only at e hl G|-;subst e;refine .ite (fun hc=>?_) fun _=>.ret ⟨by dsimp only;omega,G⟩;have hc:=Yl hc;have⟨o1,U⟩:=one l (30-i) hl G;have ew:IntKind.i64.wrap ((i:Int) -1)=((i-1:Nat):Int):=(Qm (by omega) (by omega)).trans (by omega);rw[ew];exact .gd (by rw[List.length_singleton];omega) (.ret ⟨⟨i-1,rfl,by omega,by dsimp only;omega,U⟩,by dsimp only;omega⟩)
 ·simp only[Yo,Yh,List.not_mem_nil,or_false] at G;rcases G with rfl|rfl|rfl
  ·exact e1
  ·exact ev0
  ·exact⟨by dsimp only;omega,Yt _⟩
theorem Quw {s:QAv} (hs:Ok s) {l:List QAw} (hl:EvL l):Post (Qbf s l) fun x=>Ok x.1∧x.2=l:=by
 have hf:=hl.few;unfold Qbf;refine .bd (Q:=fun t=>Ok ⟨t.1,⟨t.2.1,t.2.2.1,t.2.2.2.1,t.2.2.2.2.1,t.2.2.2.2.2.1⟩,t.2.2.2.2.2.2.1,t.2.2.2.2.2.2.2.1,t.2.2.2.2.2.2.2.2.1,⟨t.2.2.2.2.2.2.2.2.2.1,t.2.2.2.2.2.2.2.2.2.2.1,t.2.2.2.2.2.2.2.2.2.2.2.1,t.2.2.2.2.2.2.2.2.2.2.2.2.1,t.2.2.2.2.2.2.2.2.2.2.2.2.2⟩⟩) (.lp (fun t=>∃(q:QAv) (i:Nat),i<=l.length∧Ok q∧t=(q.Up,q.Box.Edition,q.Job.Step,q.Job.Edition,q.Job.Ticks,q.Job.Lines,q.Box.Lines,q.Box.Trial,q.Box.Back,q.Box.Cands,q.Slots,q.Live,q.Last,q.Job.Kind,(i:Int))) (fun t=>l.length-t.2.2.2.2.2.2.2.2.2.2.2.2.2.2.toNat) ⟨s,0,Yt _,hs,rfl⟩ ?_) fun x I=>.ret ⟨I,rfl⟩;rintro _ ⟨q,i,hi,J,rfl⟩;dsimp only;refine .ite (fun hc=>?_) fun _=>.ret J;have G:i<l.length:=by have:=Yl hc;omega
 refine .gd (by omega) ?_;have⟨e1,O⟩:=Quu J (hl.each _ (Zb G));refine .bd ⟨_,by rw[Y3];exact e1,O⟩ fun x I=>.ret ⟨⟨x.1,i+1,G,I,by rw[Qj G (by omega)]⟩,by dsimp only;rw[Qj G (by omega)];omega⟩
theorem Qyq {ls:List Bt} (h:cB ls):Qct ls=some (⟨true,⟨0,ls,0,[],[]⟩,[⟨true,0,false,ls⟩,⟨false,0,false,[]⟩],0,0,⟨0,0,0,0,[]⟩⟩,true):=by
 have hn:=h.neat.len;unfold Qct;rw[QlC h,Qa,Y0 (by decide),Qqx,Qa];refine⟨⟨by dsimp only;omega,Yt _,Yt _,fun c hc=>by cases hc⟩,Yt _,by simp,fun c hc=>?_⟩;simp only[Yh,List.not_mem_nil,or_false] at hc;rcases hc with rfl|rfl
 ·dsimp only;omega
 ·exact Yt _
theorem Qyr {ls:List Bt} (h:cB ls) {n:Int} (G:0<=n) (h1:n<=1000000):Ok ⟨true,⟨n,ls,0,[],[]⟩,[⟨true,n,false,ls⟩,⟨false,0,false,[]⟩],0,n,⟨0,0,0,0,[]⟩⟩:=
 .up 0 n ⟨true,n,false,ls⟩ ⟨false,0,false,[]⟩ [] _ _ ⟨.inl rfl,G,h1,rfl,⟨fun _=>⟨G,X7 _,h⟩,fun e=>(by cases e)⟩,⟨fun e=>(by cases e),fun _=>⟨rfl,rfl,(show Qcn []=0 by decide)⟩⟩,fun e=>(by cases e)⟩ .nil (.idle n rfl (.inl ⟨rfl,rfl⟩))
theorem Qpt {b:List Int} {p k:Int} (h:Rq b p k) (hk:k<=1000):Post (QbD ⟨b,p⟩) fun x=>Ok x.1∧Rq b x.2.p (k+2000):=by
 unfold QbD;refine .bd (QsB h hk) fun x1 ⟨hc,h1⟩=>?_;rw[Qyq hc,Qa];dsimp only;refine .bd (Q:=fun x=>(∃n:Int,0<=n∧n<=1000000∧x.1=[⟨true,n,false,x1.1⟩,⟨false,0,false,[]⟩]∧x.2.1=n∧x.2.2.1=n)∧Rq b x.2.2.2 (k+700)) (.bd (pk5 h1 (by omega) (by omega)) fun x6 ⟨_,h6⟩=>.ite (fun _=>.bd (pk5 h6 (by omega) (by omega)) fun U ⟨g7,h7⟩=>?_) fun _=>.ret ⟨⟨0,X7 _,by omega,rfl,rfl,rfl⟩,h6.mono (by omega)⟩) ?_
 ·have O:IntKind.i64.wrap (1000000-U.1)=1000000-U.1:=Qm (by omega) (by omega);rw[O,Qd ⟨X7 _,by simp⟩,Qa];exact .ret ⟨⟨1000000-U.1,by omega,by omega,rfl,rfl,rfl⟩,h7.mono (by omega)⟩
 ·rintro⟨sl,ed,la,p3⟩ ⟨⟨n,n0,n1,e1,e2,e3⟩,h3⟩;dsimp only at e1 e2 e3 h3|-;subst e1 e2 e3;refine .bd (pk5 h3 (by omega) (by omega)) fun G ⟨g10,Y⟩=>?_;refine .bd (Q:=fun t=>Ok ⟨t.1,⟨t.2.1,t.2.2.1,t.2.2.2.1,t.2.2.2.2.1,t.2.2.2.2.2.1⟩,t.2.2.2.2.2.2.1,t.2.2.2.2.2.2.2.1,t.2.2.2.2.2.2.2.2.1,⟨t.2.2.2.2.2.2.2.2.2.1,t.2.2.2.2.2.2.2.2.2.2.1,t.2.2.2.2.2.2.2.2.2.2.2.1,t.2.2.2.2.2.2.2.2.2.2.2.2.1,t.2.2.2.2.2.2.2.2.2.2.2.2.2.1⟩⟩∧Rq b t.2.2.2.2.2.2.2.2.2.2.2.2.2.2 (k+2000)) (.lp (fun t=>∃(q:QAv) (pp:Int) (i:Nat),i<=12∧Ok q∧Rq b pp (k+800+60*((12:Int) -i))∧t=(q.Up,q.Box.Edition,q.Job.Step,q.Job.Edition,q.Job.Ticks,q.Job.Lines,q.Box.Lines,q.Box.Trial,q.Box.Back,q.Box.Cands,q.Slots,q.Live,q.Last,q.Job.Kind,pp,(i:Int))) (fun t=>t.2.2.2.2.2.2.2.2.2.2.2.2.2.2.2.toNat) ⟨_,G.2.p,G.1.toNat,by omega,Qyr hc n0 n1,Y.mono (by omega),by rw[show((G.1.toNat:Nat):Int)=G.1 by omega]⟩ ?_) fun x hx=>.ret hx;rintro _ ⟨q,pp,i,hi,hq,I,rfl⟩;dsimp only;refine .ite (fun J=>?_) fun _=>.ret ⟨hq,I.mono (by omega)⟩;have J:=Yl J;have O:IntKind.i64.wrap ((i:Int) -1)=((i-1:Nat):Int):=(Qm (by omega) (by omega)).trans (by omega);refine .bd (Quv hq.dr I (by omega)) fun a3 ⟨hl,a4⟩=>.bd (Quw hq hl) fun a2 ⟨a1,hx⟩=>.gd (by rw[hx]) (.ret ⟨⟨a2.1,a3.2.p,i-1,by omega,a1,a4.mono (by omega),by rw[O]⟩,by dsimp only;rw[O];omega⟩)
theorem Qj2 {a:List Int} (ha:a.length<=1048576) (h:∀x∈a,Qmc x):Post (J4 a) Ok:=by
 unfold J4;exact .bd (QsA ha h) fun r G=>.bd (Qpt G (by omega)) fun x I=>.ret I.1
abbrev evK (k:Int):QAw:=⟨k,ByteArray.empty,ByteArray.empty,0⟩
section
variable {mrg:Mrg} {may:May} {s:QAv}
end
def F0 (a o:QAu):List Bt:=if a.Trial=true then o.Lines else a.Lines
def E0 (la:Int) (a:QAu):Int:=if a.Trial=true∨a.Edition≠la then la+1 else la
@[reducible] def dnS (lv la:Int) (a o:QAu):QAv:=⟨false,⟨0,[],0,[],[]⟩,two lv a o,lv,la,jK 0⟩
@[reducible] def upS (lv la:Int) (a o:QAu):QAv:=⟨true,⟨E0 la a,F0 a o,0,[],[]⟩,two lv a o,lv,la,if a.Trial=true then jK 3 else jK 0⟩
section
variable {lv la:Int} {a o:QAu} {cs:List QAr} {b:QAs} {j:QAt}
theorem Qqy (D:Disk lv la a o):Qmh (dnS lv la a o)=upS lv la a o:=by
 unfold Qmh Qf5 QpC upS E0 F0;dsimp only;rw[JO D.lv,J3 D.lv]
 by_cases h:a.Trial=true
 ·rw[Y2 h,Y2 (.inl h),Y2 h,Y2 h]
 ·rw[Y0 h,Y0 h,Y0 h]
  by_cases G:a.Edition=la
  ·rw[Y2 G,Y0 (fun e=>e.elim h fun e=>e G)]
  ·rw[Y0 G,Y2 (.inr G)]
end
def Qpu (j:QAt):Nat:=if j.Kind=1 then((j.Lines.length:Int)+3-j.Step).toNat else if j.Kind=0 then 0 else 1
def Qoa (s:QAv):Prop:=(s.Job.Kind=1∧0<s.Job.Ticks)∨(s.Job.Kind=0∧0<s.Box.Trial)
@[reducible] def Qf6 (lv la:Int) (a o:QAu) (E:Int) (cs:List QAr):QAv:=⟨true,⟨E,a.Lines,0,[],cs⟩,two lv a o,lv,la,jK 0⟩
@[reducible] def Qck (lv la:Int) (a o:QAu) (T k:Int) (cs:List QAr):QAv:=⟨true,⟨la,a.Lines,T,o.Lines,cs⟩,two lv a o,lv,la,jK k⟩
@[reducible] def Qux (lv la:Int) (a o:QAu) (cs:List QAr):QAv:=⟨true,⟨la+1,o.Lines,0,[],cs⟩,two lv a o,lv,la,jK 3⟩
section
variable {lv la:Int} {a o:QAu} {cs:List QAr} {b:QAs} {j:QAt}
theorem Quy (P:Phase la a o cs b j):Qpu j<=19:=by
 unfold Qpu
 cases P with
 |trial T k ht h1 h9 hk=>dsimp only;split<;>(try split)<;>omega
 |back ht=>decide
 |idle E ht hE=>decide
 |start E t js ht hE hm hj t0 t9=>have:=hj.neat.len;dsimp only;rw[Y2 rfl];omega
 |part E t js k ht hE ha hj t0 t9 hk ho=>have:=hj.neat.len;dsimp only;rw[Y2 rfl];omega
 |done E t js ht hE ha hj t0 t9 ho=>have:=hj.neat.len;dsimp only;rw[Y2 rfl];omega
theorem QsD (D:Disk lv la a o) (P:Phase la a o cs b j):
  (Qa0 ⟨true,b,two lv a o,lv,la,j⟩).1.Up=true∧(Qpu j=0->(Qa0 ⟨true,b,two lv a o,lv,la,j⟩)=(⟨true,b,two lv a o,lv,la,j⟩,11))∧(0<Qpu j->Qpu (Qa0 ⟨true,b,two lv a o,lv,la,j⟩).1.Job+1=Qpu j)∧(Qoa ⟨true,b,two lv a o,lv,la,j⟩->Qoa (Qa0 ⟨true,b,two lv a o,lv,la,j⟩).1):=by
 unfold Qa0 QpD Qpu Qoa
 cases P with
 |trial T k ht h1 h9 hk=>
  rcases hk with rfl|rfl
  ·dsimp only;rw[Y0 (by decide),Y0 (by decide),Y0 (by decide)];exact⟨rfl,fun _=>rfl,fun h=>absurd h (by decide),fun h=>h⟩
  ·dsimp only;rw[Y0 (by decide),Y2 (by rfl)];exact⟨rfl,fun h=>absurd h (by decide),fun _=>rfl,fun h=>by rcases h with ⟨h,_⟩|⟨h,_⟩<;>exact absurd h (by decide)⟩
 |back ht=>
  dsimp only;rw[Y0 (by decide),Y0 (by decide),Y2 (by rfl)];exact⟨rfl,fun h=>absurd h (by decide),fun _=>rfl,fun h=>by rcases h with ⟨h,_⟩|⟨h,_⟩<;>exact absurd h (by decide)⟩
 |idle E ht hE=>
  dsimp only;rw[Y0 (by decide),Y0 (by decide),Y0 (by decide)];exact⟨rfl,fun _=>rfl,fun h=>absurd h (by decide),fun h=>h⟩
 |start E t js ht hE hm hj t0 t9=>
  dsimp only;rw[Y2 (by rfl),Y2 (by rfl)];refine⟨rfl,fun h=>absurd h (by rw[Y2 rfl];omega),fun _=>?_,fun h=>?_⟩
  ·dsimp only;rw[Y2 rfl,Y2 rfl];omega
  ·rcases h with ⟨h,h2⟩|⟨h,_⟩
   ·exact .inl ⟨rfl,h2⟩
   ·exact absurd h (by decide)
 |part E t js k ht hE ha hj t0 t9 hk ho=>
  dsimp only;rw[Y2 (by rfl),Y0 (by omega)]
  by_cases G:(k:Int)+1<=(js.length:Int)
  ·rw[Y2 G];refine⟨rfl,fun h=>absurd h (by rw[Y2 rfl];omega),fun _=>?_,fun h=>?_⟩
   ·dsimp only;rw[Y2 rfl,Y2 rfl];omega
   ·rcases h with ⟨h,h2⟩|⟨h,_⟩
    ·exact .inl ⟨rfl,h2⟩
    ·exact absurd h (by decide)
  ·rw[Y0 G,Y2 (by omega)];refine⟨rfl,fun h=>absurd h (by rw[Y2 rfl];omega),fun _=>?_,fun h=>?_⟩
   ·dsimp only;rw[Y2 rfl,Y2 rfl];omega
   ·rcases h with ⟨h,h2⟩|⟨h,_⟩
    ·exact .inl ⟨rfl,h2⟩
    ·exact absurd h (by decide)
 |done E t js ht hE ha hj t0 t9 ho=>
  dsimp only;rw[Y2 (by rfl),Y0 (by omega),Y0 (by omega),Y0 (by omega)];refine⟨rfl,fun h=>absurd h (by rw[Y2 rfl];omega),fun _=>?_,fun h=>?_⟩
  ·show(if(0:Int)=1 then _ else if(0:Int)=0 then 0 else 1)+1=if(1:Int)=1 then _ else _;rw[Y0 (by decide),Y2 rfl,Y2 rfl];omega
  ·rcases h with ⟨h,h2⟩|⟨h,_⟩
   ·exact .inr ⟨rfl,by dsimp only at h2|-;rw[Y2 h2];exact h2⟩
   ·exact absurd h (by decide)
theorem Qwc (P:Phase la a o cs b j) (h:Qpu j=0):(∃T,1<=T∧T<=9∧a.Trial=true∧b=⟨la,a.Lines,T,o.Lines,cs⟩∧j=jK 0)∨(∃E,a.Trial=false∧Qf4 E la a.Edition∧b=⟨E,a.Lines,0,[],cs⟩∧j=jK 0):=by
 unfold Qpu at h
 cases P with
 |trial T k ht h1 h9 hk=>
  rcases hk with rfl|rfl
  ·exact .inl ⟨T,h1,h9,ht,rfl,rfl⟩
  ·exact absurd h (by decide)
 |back ht=>exact absurd h (by decide)
 |idle E ht hE=>exact .inr ⟨E,ht,hE,rfl,rfl⟩
 |start E t js ht hE hm hj t0 t9=>rw[Y2 rfl] at h;dsimp only at h;omega
 |part E t js k ht hE ha hj t0 t9 hk ho=>rw[Y2 rfl] at h;dsimp only at h;omega
 |done E t js ht hE ha hj t0 t9 ho=>rw[Y2 rfl] at h;dsimp only at h;omega
end
theorem QzG {cs:List QAr} {c:QAr}:atU (QfV cs c) c.User=some (cs.filter fun x=>bsl x.User c.User).length∧(QfV cs c).getD (cs.filter fun x=>bsl x.User c.User).length default=c:=by
 unfold atU QfV;have G:(cs.filter fun x=>bsl x.User c.User).findIdx? (fun x=>x.User==c.User)=none:=List.findIdx?_eq_none_iff.2 fun x I=>by
  have:=(YB.1 I).2;exact Qpn fun e=>by rw[e,QgK] at this;cases this
 constructor
 ·rw[List.findIdx?_append,G,List.findIdx?_cons,Y2 (Qfc _)];simp
 ·simp[Y1]
theorem Quz {lv la E t:Int} {a o:QAu} {cs:List QAr} {may:May} {u:Bt} (D:Disk lv la a o) (h0:1<=t) (h9:t<=9) (hm:may a.Lines a.Lines u=true):
  (E>=1000000∧Qbz may (Qf6 lv la a o E (QfV cs ⟨u,E,a.Lines,a.Lines⟩)) u t=(Qf6 lv la a o E (QfV cs ⟨u,E,a.Lines,a.Lines⟩),9))∨
  ∃s,Qbz may (Qf6 lv la a o E (QfV cs ⟨u,E,a.Lines,a.Lines⟩)) u t=(s,0)∧s.Up=true∧Qoa s:=by
 have⟨e1,G⟩:=QzG (cs:=cs) (c:=⟨u,E,a.Lines,a.Lines⟩);unfold Qbz Qh0;dsimp only at e1|-;rw[e1];dsimp only;rw[G,Y0 (by omega),Y0 (by decide),Y0 (by decide),Y0 (by simp)];dsimp only;rw[Y0 (fun h=>h D.a0.2.2),hm,Y0 (by decide)]
 by_cases hE:E>=1000000
 ·rw[Y2 hE];exact .inl ⟨hE,rfl⟩
 ·rw[Y0 hE];exact .inr ⟨_,rfl,rfl,.inl ⟨rfl,by dsimp only;omega⟩⟩
theorem Qpv {xs:List Bt} (h:nB xs):Qbn xs=some true:=by
 have:=Que (ls:=xs.map tB) h.short' (by rw[Ya];have:=h.len;omega);rw[Qpo,show Qcn (xs.map tB)=0 from h] at this;unfold Qbn;rw[this,Qa]
 rfl
theorem QuA {xs:List Bt} (h:nB xs):Jd xs=some (Qbj (xs.map tB)):=by
 have:=QvU (ls:=xs.map tB) h.short' (by rw[Ya];have:=h.len;omega);rwa[Qpo] at this
theorem Qob {xs:List Bt} (h:cB xs):Jd xs=some 0:=by
 rw[QuA h.neat,show Qbj (xs.map tB)=0 from h]
theorem QrA {xs:List Bt} (h:xs.length<=1000):QM xs xs=some true:=by
 unfold QM;rw[Y0 (by simp),Qst xs.length (.inr ()) (fun i hi=>?_) ?_,Qa]
 ·rw[Y0 (by simp)]
 ·have G:(0:Int)<=(i:Int)∧(i:Int)<((xs.length:Nat):Int):=by omega
  rw[Y2 (Yd G.2),Qd G,Qd G,Y0 (by simp),Qj hi (by omega)]
theorem QcW {x lo hi:Int} (G:lo<=x) (h1:x<=hi):Qs x lo hi=some true:=by
 show some (decide (_<=_)&&decide (_<=_))=_;rw[Yd G,Yd h1];rfl
section
variable {lv la:Int} {a o:QAu} {cs:List QAr} {b:QAs} {j:QAt}
theorem QrB {up:Bool} (D:Disk lv la a o):Jz ⟨up,b,two lv a o,lv,la,j⟩=some true:=by
 unfold Jz;dsimp only;have J:((((2:Nat):Int)) !=2)=false:=rfl;have e1:Qs lv 0 1=some true:=by rcases D.lv with rfl|rfl<;>rfl
 rw[QaE,J,Qe rfl,e1,Qa,Qe (by rfl),QcW D.l0 D.l1,Qa,Y0 (by decide),Qst 2 (.inr ()) (fun i hi=>?_) ?_,Qa]
 ·dsimp only;rw[Qd (QfW D.lv),Qg0 D.lv,Qd (Qbd D.lv),JO D.lv,J3 D.lv,D.aw,Y0 (by decide)]
  cases ht:a.Trial
  ·rfl
  ·have⟨O,U,Y,I⟩:=D.tr ht;rw[U,Y,O,Yd I];simp
 ·rw[Y0 (by decide)]
 ·have G:(0:Int)<=(i:Int)∧(i:Int)<((2:Nat):Int):=by omega
  have hm:SlotB la ((two lv a o).getD i default):=by
   have:=Qqv (lv:=lv) (Zb (xs:=two lv a o) (i:=i) (by rw[QaE];exact hi));rcases this with e|e<;>rw[e]
   ·exact D.ab
   ·exact D.ob
  rw[Y2 (Yd G.2),Qd G,Y3,Qj hi (by omega)];generalize (two lv a o).getD i default=s at hm|-
  cases e:s.Whole
  ·have⟨h1,h2,h3⟩:=hm.part e;rw[QO (by decide),Qa,QO (by simp),Qa,Y0 (by simp),h1,h2,Qe ⟨by decide,by decide⟩,Qpv h3,Qa,Y0 (by decide)]
  ·have⟨h1,h2,h3⟩:=hm.whole e;rw[Qe rfl,QcW h1 h2,Qa,Qe ⟨rfl,rfl⟩,Qob h3,Qa,Y0 (by decide),QO (by simp),Qa,Y0 (by simp)]
theorem Qwd {up:Bool} (D:Disk lv la a o) {E:Int} (h:Qf4 E la a.Edition):Jh ⟨up,b,two lv a o,lv,la,j⟩ E=some true:=by
 have l0:=D.l0;have l1:=D.l1;unfold Jh Qbo;dsimp only;rw[QaE,Qd (QfW D.lv),JO D.lv,Qm (by omega) (by omega)];unfold Qf4 at h;rcases h with ⟨h1,h2⟩|⟨h1,h2⟩
 ·rw[Qe ⟨by simpa using h1,by simp;omega⟩,Qa,h1,h2];simp
 ·rw[QO (fun⟨e,_⟩=>by simp at e;omega),Qa,h1];simp
theorem Qwe {b:QAs} (h:CandsB b.Edition b.Cands):Jg b=some true:=by
 unfold Jg;have hf:=h.few;rw[Qst b.Cands.length (.inr ()) (fun i hi=>?_) ?_,Qa]
 ·dsimp only;rw[Yd (by omega)]
 ·rw[Y0 (by simp)]
 ·have hc:=h.each _ (Zb hi);have I:(0:Int)<=(i:Int)∧(i:Int)<((b.Cands.length:Nat):Int):=by omega
  have J:0<i->IntKind.i64.wrap ((i:Int) -1)=((i-1:Nat):Int):=fun G=>by rw[Qm (by omega) (by omega)];omega
  have O:(decide ((i:Int)>0)&&(!(bsl ((b.Cands.getD ((IntKind.i64.wrap ((i:Int) -1)).toNat) default).User) ((b.Cands.getD i default).User))))=false:=by
   cases G:decide ((i:Int)>0)
   ·rfl
   ·have hp:0<i:=by have:=Yl G;omega
    rw[J hp,Y3,Qqw h.rise hp hi];rfl
  have U:QbE ((b.Cands.getD i default).User)=some true:=by
   have:=QtQ (w:=tB (b.Cands.getD i default).User) (QlA hc.name);rwa[QfF,hc.name] at this
  rw[Y2 (Yd I.2),Qd I,Y3,U,Qa,Qd (fun G _=>by have:0<i:=(by have:=Yl G;omega);rw[J this];omega),O,Qe (by rfl),QcW hc.b0 hc.b1,Qa,Qe (by rfl),Qpv hc.rows,Qa,Qe (by rfl),Qpv hc.lines,Qa,Y0 (by decide),Qj hi (by omega)]
theorem QzH (D:Disk lv la a o) (P:Phase la a o cs b j):J5 ⟨true,b,two lv a o,lv,la,j⟩=some true:=by
 have l0:=D.l0;have l1:=D.l1;have hA:=D.ab.few;have hO:=D.ob.few;have G:=P.ed D;have O:=QrA (xs:=a.Lines) (by omega);have Y:=QrA (xs:=o.Lines) (by omega);have U:=@Qwd lv la a o b j true D;unfold J5;dsimp only;rw[QaE,Qd (QfW D.lv),Qg0 D.lv,Qd (Qbd D.lv),JO D.lv,J3 D.lv]
 cases P with
 |trial T k ht h1 h9 hk=>
  dsimp only;rw[Y2 (by simp;omega),ht,QcW h1 h9,Qa,Qe (by rfl),O,Qa,Qe (by rfl),Y,Qa];rcases hk with rfl|rfl
  ·rw[Qe (by simp),show Qx (jK 0) 0=some true from rfl,Qa,QO (by simp),Qa];simp
  ·rw[Qe (by simp),show Qx (jK 2) 0=some false from rfl,Qa,Qe (by simp),show Qx (jK 2) 2=some true from rfl,Qa];simp
 |back ht=>
  dsimp only;rw[Y0 (by simp),Y0 (by simp),Y2 ht,Y,Qa,Qm (by omega) (by omega),Qe (by simp),show Qx (jK 3) 3=some true from rfl,Qa];simp
 |idle E ht hE=>
  dsimp only;rw[Y0 (by simp),Y0 (by simp),Y0 (by rw[ht];decide),O,Qa,Qe rfl,show Qx (jK 0) 0=some true from rfl,Qa,Qe ⟨rfl,rfl⟩,U hE,Qa,QO (by simp),Qa]
  rfl
 |start E t js ht I hm hj t0 t9=>
  dsimp only at G|-;have J:Qx (⟨1,0,E+1,t,js⟩:QAt) 0=some false:=rfl;have hc:Q0 ⟨true,⟨E,a.Lines,0,[],cs⟩,two lv a o,lv,la,⟨1,0,E+1,t,js⟩⟩=some true:=by
   have hl:=hj.neat.len;unfold Q0;dsimp only;rw[Qe (by rfl),Qob hj,Qa,Qe (by rfl),QcW t0 t9,Qa,Qm (n:=E+1) (by omega) (by omega),Qe (by simp;omega),Qm (n:=(js.length:Int)+2) (by omega) (by omega),QcW (by omega) (by omega),Qa,Y0 (by simp;omega),Y2 (by rfl),U I,Qa]
  rw[Y0 (by simp),Y0 (by simp),Y0 (by rw[ht];decide),O,Qa,Qe rfl,J,Qa,QO (by simp),Qa,Qe (by simp),hc,Qa];simp
 |part E t js k ht I ha hj t0 t9 hk ho=>
  dsimp only at G|-;have J:Qx (⟨1,(k:Int)+1,E+1,t,js⟩:QAt) 0=some false:=rfl;have hc:Q0 ⟨true,⟨E,a.Lines,0,[],cs⟩,two lv a o,lv,la,⟨1,(k:Int)+1,E+1,t,js⟩⟩=some true:=by
   have hl:=hj.neat.len;unfold Q0;dsimp only;rw[Qe (by rfl),Qob hj,Qa,Qe (by rfl),QcW t0 t9,Qa,Qm (n:=E+1) (by omega) (by omega),Qe (by simp;omega),Qm (n:=(js.length:Int)+2) (by omega) (by omega),QcW (by omega) (by omega),Qa,Y0 (by simp;omega),Y0 (by simp;omega),QaE,Qg0 D.lv,Qd (Qbd D.lv),Y0 (by simp;omega),Y0 (by simp;omega),J3 D.lv,Qm (n:=(k:Int)+1-1) (by omega) (by omega),show((k:Int)+1-1).toNat=k by omega,ho];dsimp only;rw[Qd (fun _=>by omega),Qe (by rfl),QrA (by rw[Yn];omega),Qa]
   rfl
  rw[Y0 (by simp),Y0 (by simp),Y0 (by rw[ht];decide),O,Qa,Qe rfl,J,Qa,QO (by simp),Qa,Qe (by simp),hc,Qa];simp
 |done E t js ht I ha hj t0 t9 ho=>
  dsimp only at G|-;have J:Qx (⟨1,(js.length:Int)+2,E+1,t,js⟩:QAt) 0=some false:=rfl;have hc:Q0 ⟨true,⟨E,a.Lines,0,[],cs⟩,two lv a o,lv,la,⟨1,(js.length:Int)+2,E+1,t,js⟩⟩=some true:=by
   have hl:=hj.neat.len;unfold Q0;dsimp only;rw[Qe (by rfl),Qob hj,Qa,Qe (by rfl),QcW t0 t9,Qa,Qm (n:=E+1) (by omega) (by omega),Qe (by simp;omega),Qm (n:=(js.length:Int)+2) (by omega) (by omega),QcW (by omega) (by omega),Qa,Y0 (by simp;omega),Y0 (by simp;omega),QaE,Qg0 D.lv,Qd (Qbd D.lv),Y0 (by simp;omega),Y2 (by simp),J3 D.lv,ho];dsimp only;rw[Qe (by simp),QrA (by omega),Qa];simp
  rw[Y0 (by simp),Y0 (by simp),Y0 (by rw[ht];decide),O,Qa,Qe rfl,J,Qa,QO (by simp),Qa,Qe (by simp),hc,Qa];simp
end
theorem Qys {s:QAv} (h:Ok s):Z5 s=some true:=by
 unfold Z5
 cases h with
 |down lv la a o D=>
  rw[QrB D,Qa,Y0 (by decide),Y2 (by rfl),Qe (by rfl),show Qx (jK 0) 0=some true from rfl,Qa]
  rfl
 |up lv la a o cs b j D C P=>
  have hb:Jg b=some true:=Qwe (by rw[P.cands];exact C);rw[QrB D,Qa,Y0 (by decide),Y0 (by simp),hb,Qa,Qe rfl,QzH D P,Qa]
  rfl
theorem Qpw {s s':QAv} {e:QAw} {c:Int} (h:Ok s) (hk:1<=e.Kind∧e.Kind<=10) (I:¬s.Up=(e.Kind==10)) (G:Qr s e=some (c,s')):Qu s e=some (if c=0 then s' else s,c):=by
 have J:Qax s e=some (if c=0 then s' else s,c):=by
  unfold Qax;rw[Qys h,Qa,Y0 (by decide),QwK h.few,Qa,QcW hk.1 hk.2,Qa,Y0 (by decide),Y0 (by simpa using I),G,Qa]
  by_cases hc:c=0
  ·rw[Y0 (by simp[hc]),Y2 hc,hc]
  ·rw[Y2 (by simp[hc]),Y0 hc,Qa]
 show Qcb s e=_;unfold Qcb;rw[J]
theorem QrC {s:QAv} (h:Ok s) (I:s.Up=true):Qu s ⟨9,ByteArray.empty,ByteArray.empty,0⟩=some (Qv0 s,0):=by
 have G:Qr s ⟨9,ByteArray.empty,ByteArray.empty,0⟩=some (0,Qv0 s):=by
  unfold Qr;rw[Y0 (by decide),Y0 (by decide),Qa,Y0 (by decide),Y0 (by decide),Y0 (by decide),Y0 (by decide),Y0 (by decide),Y0 (by decide),Y2 (by rfl)]
  rfl
 have:=Qpw h (by decide) (by rw[I];decide) G;rwa[Y2 rfl] at this
theorem QuB {xs:List Bt} (h:nB xs):QD xs=some xs:=QfK (by have:=h.len;omega)
theorem Qoc {lv la:Int} {a o:QAu} (D:Disk lv la a o):Qu ⟨false,⟨0,[],0,[],[]⟩,two lv a o,lv,la,jK 0⟩ ⟨10,ByteArray.empty,ByteArray.empty,0⟩=some (Qmh ⟨false,⟨0,[],0,[],[]⟩,two lv a o,lv,la,jK 0⟩,0):=by
 have l0:=D.l0;have l1:=D.l1;have I:Qr ⟨false,⟨0,[],0,[],[]⟩,two lv a o,lv,la,jK 0⟩ ⟨10,ByteArray.empty,ByteArray.empty,0⟩=some (0,Qmh ⟨false,⟨0,[],0,[],[]⟩,two lv a o,lv,la,jK 0⟩):=by
  unfold Qr;rw[Y0 (by decide),Y0 (by decide),Qa,Y0 (by decide),Y0 (by decide),Y0 (by decide),Y0 (by decide),Y0 (by decide),Y0 (by decide),Y0 (by decide),Y2 (by rfl)];unfold Qbt Qmh Qf5 QpC;dsimp only;rw[QaE,Qd (QfW D.lv),Qg0 D.lv,JO D.lv,J3 D.lv,Qm (n:=la+1) (by omega) (by omega)]
  by_cases ht:a.Trial=true
  ·rw[Y2 ht,Y2 ht,Qd (Qbd D.lv),QuB D.ob.neat,Qa,Qa]
  ·rw[Y0 ht,Y0 ht,Qd (QfW D.lv),QuB D.ab.neat,Qa,Qd (QfW D.lv)]
   by_cases G:a.Edition=la
   ·rw[Y0 (by simpa using G),Y2 G,Qa]
   ·rw[Y2 (by simpa using G),Y0 G,Qa]
 have:=Qpw (e:=⟨10,ByteArray.empty,ByteArray.empty,0⟩) (.down lv la a o D) (show(1:Int)<=10∧(10:Int)<=10 by decide) (show ¬(false=true) by decide) I;rwa[Y2 rfl] at this
section
variable {lv la:Int} {a o:QAu} {cs:List QAr} {b:QAs} {j:QAt}
theorem Qyt (s:QAv):Qr s ⟨8,ByteArray.empty,ByteArray.empty,0⟩=bd (ZG s) fun G=>some (G.1,{G.2 with Up:=s.Up,Box:={G.2.Box with Cands:=s.Box.Cands}}):=by
 unfold Qr;rw[Y0 (by decide),Y0 (by decide),Qa,Y0 (by decide),Y0 (by decide),Y0 (by decide),Y0 (by decide),Y0 (by decide),Y2 (by decide)]
theorem QuC {x:QAu} (h:lv=0∨lv=1):(two lv a o).set lv.toNat x=two lv x o:=by
 rcases h with rfl|rfl<;>rfl
theorem QsE (D:Disk lv la a o) (C:CandsB b.Edition cs) (P:Phase la a o cs b j) (hj:j.Kind≠1):Qu ⟨true,b,two lv a o,lv,la,j⟩ ⟨8,ByteArray.empty,ByteArray.empty,0⟩=some (Qa0 ⟨true,b,two lv a o,lv,la,j⟩):=by
 have G:Ok ⟨true,b,two lv a o,lv,la,j⟩:=.up lv la a o cs b j D C P;have I:Qr ⟨true,b,two lv a o,lv,la,j⟩ ⟨8,ByteArray.empty,ByteArray.empty,0⟩=some ((Qa0 ⟨true,b,two lv a o,lv,la,j⟩).2,(Qa0 ⟨true,b,two lv a o,lv,la,j⟩).1):=by
  rw[Qyt];unfold ZG Qa0;dsimp only;rw[Y0 (show ¬((j.Kind==1)=true) by simpa using hj),Y0 hj]
  by_cases h2:j.Kind=2
  ·rw[Y2 (show(j.Kind==2)=true by simpa using h2),Y2 h2,QaE,Qd (QfW D.lv),JO D.lv,QuC D.lv,Qa];unfold Qf5 QpC;dsimp only;rw[JO D.lv,J3 D.lv]
  rw[Y0 (show ¬((j.Kind==2)=true) by simpa using h2),Y0 h2]
  by_cases h3:j.Kind=3
  ·rw[Y2 (show(j.Kind==3)=true by simpa using h3),Y2 h3,Qg0 D.lv,Qa]
  ·rw[Y0 (show ¬((j.Kind==3)=true) by simpa using h3),Y0 h3,Qa]
 have:=Qpw (e:=⟨8,ByteArray.empty,ByteArray.empty,0⟩) G (show(1:Int)<=8∧(8:Int)<=10 by decide) (show ¬(true=false) by decide) I;rw[this];unfold Qa0;dsimp only;rw[Y0 hj];split
 ·rfl
 ·split<;>rfl
end
section
variable {lv la:Int} {a o:QAu} {cs:List QAr} {b:QAs} {j:QAt}
theorem Qyu {x:QAv} {u:Bool} {c:List QAr} (h1:x.Up=u) (h2:x.Box.Cands=c):({x with Up:=u,Box:={x.Box with Cands:=c}}:QAv)=x:=by
 cases x
 subst h1 h2
 rfl
theorem QrD {s:QAv} (h:Ok s) (O:s.Up=true):Qu s ⟨7,ByteArray.empty,ByteArray.empty,0⟩=some (Qj1 s,0):=by
 cases h with
 |down lv la a o D=>cases O
 |up lv la a o cs b j D C P=>
  have l0:=D.l0;have l1:=D.l1;have hE:=P.ed D;have I:Ok ⟨true,b,two lv a o,lv,la,j⟩:=.up lv la a o cs b j D C P;have U:Qr ⟨true,b,two lv a o,lv,la,j⟩ ⟨7,ByteArray.empty,ByteArray.empty,0⟩=some (0,Qj1 ⟨true,b,two lv a o,lv,la,j⟩):=by
   unfold Qr;rw[Y0 (by decide),Y0 (by decide),Qa,Y0 (by decide),Y0 (by decide),Y0 (by decide),Y0 (by decide),Y2 (by decide)];unfold Qbs Qj1;dsimp only
   by_cases G:b.Trial=0
   ·rw[Y2 (show(b.Trial==0)=true by simpa using G),Y2 G,Qa]
   rw[Y0 (show ¬((b.Trial==0)=true) by simpa using G),Y0 G]
   cases P with
   |trial T k ht h1 h9 hk=>
    dsimp only at hE|-;rw[Qm (n:=T-1) (by omega) (by omega),Qm (n:=la+1) (by omega) (by omega)]
    by_cases J:T=1
    ·subst J;rw[Y2 (by decide),Y2 rfl,Qa]
     rfl
    ·rw[Y0 (by simp;omega),Y0 J,Qa]
   |_=>exact absurd rfl G
  have:=Qpw (e:=⟨7,ByteArray.empty,ByteArray.empty,0⟩) I (show(1:Int)<=7∧(7:Int)<=10 by decide) (show ¬(true=false) by decide) U;rwa[Y2 rfl] at this
theorem Qpx {x:QAu} (h:lv=0∨lv=1):(two lv a o).set (1-lv).toNat x=two lv a x:=by
 rcases h with rfl|rfl<;>rfl
theorem QzI (D:Disk lv la a o) (hl:j.Lines.length<=16) (h0:0<=j.Step) (h2:j.Step<=(j.Lines.length:Int)+2) (hm:¬(1<=j.Step∧j.Step<=(j.Lines.length:Int))):Zo ⟨true,b,two lv a o,lv,la,j⟩=some (QpD ⟨true,b,two lv a o,lv,la,j⟩):=by
 unfold Zo QpD Qf5 QpC;dsimp only;rw[Qg0 D.lv,QaE,JO D.lv,J3 D.lv,Qd (Qbd D.lv),Qm (n:=(j.Lines.length:Int)+1) (by omega) (by omega),Qm (n:=j.Step+1) (by omega) (by omega)];simp only[Qpx D.lv,J3 D.lv]
 by_cases hs:j.Step=0
 ·rw[Y2 (show(j.Step==0)=true by simpa using hs),Y2 hs,hs]
  rfl
 rw[Y0 (show ¬((j.Step==0)=true) by simpa using hs),Y0 hs,Y0 (show ¬(decide (j.Step<=(j.Lines.length:Int))=true) by simp;omega),Y0 (show ¬(j.Step<=(j.Lines.length:Int)) by omega)]
 by_cases h1:j.Step=(j.Lines.length:Int)+1
 ·rw[Y2 (show(j.Step==(j.Lines.length:Int)+1)=true by simpa using h1),Y2 h1,Qa];simp only[Qpx D.lv,J3 D.lv,Qa]
 rw[Y0 (show ¬((j.Step==(j.Lines.length:Int)+1)=true) by simpa using h1),Y0 h1]
 by_cases ht:j.Ticks>0
 ·rw[Y2 (Yd ht),Qa,Y2 ht,Y2 ht]
 ·rw[Y0 (show ¬(decide (j.Ticks>0)=true) by simpa using ht),Qa,Y0 ht,Y0 ht]
theorem Qyv (s:QAv):(QpD s).Up=s.Up∧(QpD s).Box.Cands=s.Box.Cands:=by
 unfold QpD;split
 ·exact⟨rfl,rfl⟩
 split
 ·exact⟨rfl,rfl⟩
 split
 ·exact⟨rfl,rfl⟩
 ·exact⟨rfl,rfl⟩
theorem Qqz (D:Disk lv la a o) (C:CandsB b.Edition cs) (P:Phase la a o cs b j) (hj:j.Kind=1) (hl:j.Lines.length<=16) (O:0<=j.Step) (h2:j.Step<=(j.Lines.length:Int)+2) (hm:¬(1<=j.Step∧j.Step<=(j.Lines.length:Int))):Qu ⟨true,b,two lv a o,lv,la,j⟩ ⟨8,ByteArray.empty,ByteArray.empty,0⟩=some (QpD ⟨true,b,two lv a o,lv,la,j⟩,0):=by
 have G:Ok ⟨true,b,two lv a o,lv,la,j⟩:=.up lv la a o cs b j D C P;have⟨J,I⟩:=Qyv ⟨true,b,two lv a o,lv,la,j⟩;have U:Qr ⟨true,b,two lv a o,lv,la,j⟩ ⟨8,ByteArray.empty,ByteArray.empty,0⟩=some (0,QpD ⟨true,b,two lv a o,lv,la,j⟩):=by
  rw[Qyt];unfold ZG;dsimp only;rw[Y2 (show(j.Kind==1)=true by simpa using hj),QzI D hl O h2 hm,Qa,Qa];dsimp only at J I|-;have:=Qyu J I;rw[this]
 have:=Qpw (e:=⟨8,ByteArray.empty,ByteArray.empty,0⟩) G (show(1:Int)<=8∧(8:Int)<=10 by decide) (show ¬(true=false) by decide) U;rwa[Y2 rfl] at this
theorem Qyw {E t:Int} {js:List Bt} {k:Nat} (D:Disk lv la a o) (C:CandsB E cs) (P:Phase la a o cs ⟨E,a.Lines,0,[],cs⟩ ⟨1,(k:Int)+1,E+1,t,js⟩) (hjs:js.length<=16) (hk:k<js.length) (ho:o=⟨false,0,false,js.take k⟩):Qu ⟨true,⟨E,a.Lines,0,[],cs⟩,two lv a o,lv,la,⟨1,(k:Int)+1,E+1,t,js⟩⟩ ⟨8,ByteArray.empty,ByteArray.empty,0⟩=some (QpD ⟨true,⟨E,a.Lines,0,[],cs⟩,two lv a o,lv,la,⟨1,(k:Int)+1,E+1,t,js⟩⟩,0):=by
 have I:Ok ⟨true,⟨E,a.Lines,0,[],cs⟩,two lv a o,lv,la,⟨1,(k:Int)+1,E+1,t,js⟩⟩:=.up lv la a o cs _ _ D C P;have hf:=I.few;have hA:=D.ab.few;have hO:=D.ob.few;have e2:IntKind.i64.wrap ((k:Int)+1-1)=(k:Int):=by rw[Qm (by omega) (by omega)];omega
 have e1:IntKind.i64.wrap ((k:Int)+1+1)=(k:Int)+1+1:=Qm (by omega) (by omega);have eo:o.Lines=js.take k:=by rw[ho]
 have Y:Qr ⟨true,⟨E,a.Lines,0,[],cs⟩,two lv a o,lv,la,⟨1,(k:Int)+1,E+1,t,js⟩⟩ ⟨8,ByteArray.empty,ByteArray.empty,0⟩=none:=by
  rw[Qyt];unfold ZG Zo;dsimp only;rw[Y2 (by rfl),QaE,Qg0 D.lv,Qd (Qbd D.lv),Y0 (show ¬(((k:Int)+1==0)=true) by simp;omega),Y2 (show decide ((k:Int)+1<=(js.length:Int))=true by simp;omega)]
  rfl
 have hg:Qax ⟨true,⟨E,a.Lines,0,[],cs⟩,two lv a o,lv,la,⟨1,(k:Int)+1,E+1,t,js⟩⟩ ⟨8,ByteArray.empty,ByteArray.empty,0⟩=none:=by
  unfold Qax;rw[Qys I,Qa,Y0 (by decide),QwK hf,Qa,show Qs 8 1 10=some true from rfl,Qa,Y0 (by decide),Y0 (show ¬((true==((8:Int)==10))=true) by decide),Y]
  rfl
 have J:(js.take k)++[js.getD k default]=js.take (k+1):=by
  rw[Xt,show js[k]? =some (js.getD k default) by simp[Y1,hk]]
  rfl
 have G:Qbg ((k:Int)+1) js o.Lines=some (js.take (k+1)):=by
  unfold Qbg;rw[e2,Y0 (by simp;omega),Y2 (by simp;omega),Qd (by omega),Qd (by rw[List.length_singleton];omega),Y3,eo,J]
 have O:∀s0 s1:QAu,s0.Lines.length<=1000->s1.Lines.length<=1000->QbW ⟨true,⟨E,a.Lines,0,[],cs⟩,two lv a o,lv,la,⟨1,(k:Int)+1,E+1,t,js⟩⟩ s0 s1=some (⟨E,a.Lines,0,[],cs⟩,js,s0.Lines,s1.Lines):=fun s0 s1 h0 h1=>by
  unfold QbW;rw[Qpk hf.box,Qa,QfK hf.job,Qa,Qrs (by simp),Qa,Qd rfl,QfK h0,Qa,QfK h1,Qa]
 have U:QpD ⟨true,⟨E,a.Lines,0,[],cs⟩,two lv a o,lv,la,⟨1,(k:Int)+1,E+1,t,js⟩⟩=⟨true,⟨E,a.Lines,0,[],cs⟩,two lv a {o with Lines:=js.take (k+1)},lv,la,⟨1,(k:Int)+1+1,E+1,t,js⟩⟩:=by
  unfold QpD Qf5 QpC;dsimp only;rw[Y0 (by omega),Y2 (by omega),JO D.lv,J3 D.lv,eo,show((k:Int)+1-1).toNat=k by omega,J]
 have a1:QkR ⟨true,⟨E,a.Lines,0,[],cs⟩,two lv a o,lv,la,⟨1,(k:Int)+1,E+1,t,js⟩⟩=some ⟨true,⟨E,a.Lines,0,[],cs⟩,two lv a {o with Lines:=js.take (k+1)},lv,la,⟨1,(k:Int)+1+1,E+1,t,js⟩⟩:=by
  unfold QkR;rw[Qys I,Qa,Qd ⟨rfl,rfl,rfl⟩,show Qs 8 1 10=some true from rfl,Qa,Qd rfl];rcases D.lv with rfl|rfl
  ·show bd (QbW _ a o) _=_;rw[O a o (by omega) (by omega),Qa];dsimp only;rw[Y2 rfl,G,Qa,e1]
   rfl
  ·show bd (QbW _ o a) _=_;rw[O o a (by omega) (by omega),Qa];dsimp only;rw[Y0 (by decide),Qd rfl,G,Qa,e1]
   rfl
 show Qcb _ _=_;unfold Qcb;rw[hg,U];show gd ((8:Int)=8) _=_;rw[Qd rfl,a1,Qa]
theorem QlF {s:QAv} (h:Ok s) (O:s.Up=true):Qu s ⟨8,ByteArray.empty,ByteArray.empty,0⟩=some (Qa0 s):=by
 cases h with
 |down lv la a o D=>cases O
 |up lv la a o cs b j D C P=>
  by_cases hj:j.Kind=1
  ·have U:Qa0 ⟨true,b,two lv a o,lv,la,j⟩=(QpD ⟨true,b,two lv a o,lv,la,j⟩,0):=by
    unfold Qa0;exact Y2 hj
   rw[U];have J:=P
   cases J with
   |trial T k ht h1 h9 hk=>rcases hk with rfl|rfl<;>exact absurd hj (by decide)
   |back ht=>exact absurd hj (by decide)
   |idle E ht hE=>exact absurd hj (by decide)
   |start E t js ht hE hm G t0 t9=>
    have:=G.neat.len;exact Qqz D C P rfl (by dsimp only;omega) (by dsimp only;omega) (by dsimp only;omega) (by dsimp only;omega)
   |part E t js k ht hE ha G t0 t9 hk ho=>
    have:=G.neat.len;rcases YV k js.length with I|hge
    ·exact Qyw D C P (by omega) I ho
    ·exact Qqz D C P rfl (by dsimp only;omega) (by dsimp only;omega) (by dsimp only;omega) (by dsimp only;omega)
   |done E t js ht hE ha G t0 t9 ho=>
    have:=G.neat.len;exact Qqz D C P rfl (by dsimp only;omega) (by dsimp only;omega) (by dsimp only;omega) (by dsimp only;omega)
  ·exact QsE D C P hj
end
def QwQ (F:List Bt) (u:Bt):Option (List Bs):=(kind wUser ((F.map tB).map wsL)).find? fun c=>c.getD 1 []==tB u
def rwL (d:Bs):List Bt:=if Qvz d=true then [tS d] else(Qcm 44 d).map tS
theorem QuD (F:List Bt) (u:Bt):(QwQ F u).isSome=isU F u:=by
 unfold QwQ isU;rw[YE,List.find?_isSome,YN]
 constructor
 ·rintro⟨c,hc,e⟩;have⟨h1,h2⟩:=Jq hc;obtain⟨l,hl,rfl⟩:=YI.1 h1;obtain⟨s,hs,rfl⟩:=YI.1 hl;exact⟨s,hs,by rw[h2,e];simp⟩
 ·rintro⟨s,hs,e⟩;simp only[Y4] at e;exact⟨_,YB.2 ⟨List.mem_map_of_mem (List.mem_map_of_mem hs),e.1⟩,e.2⟩
theorem QwR {F:List Bt} (h:nB F) (u:Bt):J1 F u=some (match QwQ F u with|some c=>(rwL (c.getD 2 []),true)|none=>([],false)):=by
 have hl:=h.len;have hs:=h;have N:=Qn2 (ls:=F.map tB) h (by rw[Ya];omega);have Y:∀c∈kind wUser ((F.map tB).map wsL),∃x d,c=[wUser,x,d]∧d.length<=24∧QiA d=true:=fun c hc=>by
  have O:=N.forms.form c (Jq hc).1;have hw:=(Jq hc).2;have⟨l,hl,e2⟩:=YI.1 (Jq hc).1
  cases O with
  | @user x d h1 h2=>
   refine⟨x,d,rfl,Qlv l d (by rw[e2];simp),h2⟩
  |_=>simp only[YT] at hw;exact absurd hw (by decide)
 have hn:(kind wUser ((F.map tB).map wsL)).length<=16:=by
  have:=QcV (w:=wUser) (cs:=(F.map tB).map wsL);rw[Ya,Ya] at this;omega
 have G:=Qdx N.kept N.few wUser;rw[Qpo] at G;unfold J1 QwQ;rw[show QH F ⟨#[117,115,101,114]⟩=_ from G,Qa];generalize kind wUser ((F.map tB).map wsL)=K at Y hn;have key:=Jp (step:=fun I=>
  (if(decide (I<(((K.map mS).length:Nat):Int)))=true then
  gd ((0:Int)<=I∧I<(((K.map mS).length:Nat):Int))<|
  gd ((0:Int)<=1∧1<((((K.map mS).getD I.toNat default).length:Nat):Int))<|
  (if((((K.map mS).getD I.toNat default).getD 1 default)==u)=true then
  gd ((0:Int)<=2∧2<((((K.map mS).getD I.toNat default).length:Nat):Int))<|
  bd (Jr (((K.map mS).getD I.toNat default).getD 2 default)) fun U=>
  some (.inr (.inl (U.1.length,U.2,U.1)))
  else
  some (.inl (IntKind.i64.wrap (I+1))))
  else
  some (.inr (.inr ())))) (β:=((Nat×Bool×(List Bt))⊕Unit)) K.length (fun i=>(K.getD i []).getD 1 []==tB u) (fun i=>.inl ((rwL ((K.getD i []).getD 2 [])).length,true,rwL ((K.getD i []).getD 2 []))) (.inr ()) (fun i hi=>by
   have hg:(0:Int)<=(i:Int)∧(i:Int)<(((K.map mS).length:Nat):Int):=by rw[Ya];omega
   have⟨x,d,e,hd,J⟩:=Y _ (Qeu hi);have em:(K.map mS).getD (i:Int).toNat default=[tS wUser,tS x,tS d]:=by
    rw[Y3,QgI hi,e];rfl
   rw[Y2 (Yd hg.2),Qd hg,em,Qd (by simp),e,Qj hi (by omega)];have eb:(([tS wUser,tS x,tS d]:List Bt).getD 1 default==u)=(([wUser,x,d]:List Bs).getD 1 []==tB u):=by
    show(tS x==u)=(x==tB u)
    conv=>lhs;rw[<-QfF u]
    exact Ji x (tB u)
   rw[eb];have er:Jr (([tS wUser,tS x,tS d]:List Bt).getD 2 default)=some (rwL d,true):=by
    show Jr (tS d)=_;rw[Qlr (by omega)];unfold rwL;unfold QiA at J
    by_cases h1:Qvz d=true
    ·rw[Y2 h1,Y2 h1]
    ·rw[Y0 h1,Y0 h1];have h2:Qjg ((Qcm 44 d).map tS)=true:=by
      simp only[Bool.not_eq_true] at h1;rw[h1] at J;simpa using J
     rw[Y2 h2]
   rw[Qd (by simp),er,Qa];split<;>rfl) (Y0 (by simp))
 refine(congrArg (fun m=>bd m _) key).trans ?_;have O:K.find? (fun c:List Bs=>c.getD 1 []==tB u)=(ZQ (fun i=>(K.getD i []).getD 1 []==tB u) K.length).map fun i=>K.getD i []:=Qjj (p:=fun c:List Bs=>c.getD 1 []==tB u) (xs:=K);rw[O]
 cases ZQ (fun i=>(K.getD i []).getD 1 []==tB u) K.length<;>rfl
theorem Qm5 {F:List Bt} (h:nB F) (u:Bt):∃r,J1 F u=some (r,isU F u):=by
 rw[QwR h,<-QuD]
 cases QwQ F u with
 |none=>exact⟨_,rfl⟩
 |some c=>exact⟨_,rfl⟩
theorem QlG {s:QAv} (h:Ok s) (O:s.Up=true) (u:Bt) (n:Int):Qu s ⟨6,u,ByteArray.empty,n⟩=some (Qav s u n):=by
 cases h with
 |down lv la a o D=>cases O
 |up lv la a o cs b j D C P=>
  have I:Ok ⟨true,b,two lv a o,lv,la,j⟩:=.up lv la a o cs b j D C P;have⟨r,J⟩:=Qm5 (P.force D).neat u;have U:Qr ⟨true,b,two lv a o,lv,la,j⟩ ⟨6,u,ByteArray.empty,n⟩=some ((Qav ⟨true,b,two lv a o,lv,la,j⟩ u n).2,(Qav ⟨true,b,two lv a o,lv,la,j⟩ u n).1):=by
   unfold Qr;dsimp only;rw[Y0 (by decide),Y0 (by decide),Qa,Y0 (by decide),Y0 (by decide),Y0 (by decide),Y2 (by decide)];unfold Qaw Qav;dsimp only;rw[J,Qa]
   by_cases G:b.Trial=0
   ·rw[Y2 (show(b.Trial==0)=true by simpa using G),Y2 G,Qa]
   rw[Y0 (show ¬((b.Trial==0)=true) by simpa using G),Y0 G]
   by_cases h1:n=b.Edition
   ·rw[Y0 (show ¬((n !=b.Edition)=true) by simpa using h1),Y0 (show ¬(n≠b.Edition) from fun h=>h h1)]
    cases isU b.Lines u
    ·rw[Y2 (show(!false)=true from rfl),Y2 rfl,Qa]
    ·rw[Y0 (show ¬((!true)=true) by decide),Y0 (show ¬(true=false) by decide)]
     by_cases h2:j.Kind=0
     ·rw[Y0 (show ¬((j.Kind !=0)=true) by simpa using h2),Y0 (show ¬(j.Kind≠0) from fun h=>h h2),Qa]
     ·rw[Y2 (show(j.Kind !=0)=true by simpa using h2),Y2 (show j.Kind≠0 from h2),Qa]
   ·rw[Y2 (show(n !=b.Edition)=true by simpa using h1),Y2 (show n≠b.Edition from h1),Qa]
  have:=Qpw (e:=⟨6,u,ByteArray.empty,n⟩) I (show(1:Int)<=6∧(6:Int)<=10 by decide) (show ¬(true=false) by decide) U;rw[this];unfold Qav;dsimp only;split
  ·rfl
  split
  ·rfl
  split
  ·rfl
  split
  ·rfl
  ·rfl
theorem QqA (s:QAv) (u:Bt):Q8 s u=bd (QyK (fun c=>QV c u) s.Box.Cands) fun cs=>some {s with Box:={s.Box with Cands:=cs}}:=by
 unfold Q8 QyK;have e:QR s.Box.Cands u=QyJ (fun c=>QV c u) s.Box.Cands:=rfl;rw[e]
 cases QyJ (fun c=>QV c u) s.Box.Cands with
 |none=>rfl
 |some x=>
  rw[Qa,Qa]
  by_cases G:(x== -1)=true
  ·rw[Y2 G,Y2 G,Qa]
  ·rw[Y0 G,Y0 G];generalize lp (σ:=List QAr×Int×Int) (β:=(Nat×Int×(List QAr))) _ (s.Box.Cands,x,IntKind.i64.wrap (x+1))=m
   cases m with
   |none=>rfl
   |some y=>
    rw[Qa,Qa];unfold gd;split
    ·split<;>rfl
    ·rfl
theorem Qm6 {s:QAv} {u:Bt} (h:s.Box.Cands.length<=1000):Q8 s u=some {s with Box:={s.Box with Cands:=s.Box.Cands.filter fun c=>!(c.User==u)}}:=by
 rw[QqA,QtI (pm:=fun c=>QV c u) (p:=fun c=>c.User==u) (fun c _=>rfl) (by omega),Qa]
set_option maxRecDepth 100000 in
theorem QuE {n:Int} (h:0<=n∧n<=255):∃k,QcK n=some k:=by
 unfold QcK Qc1;rw[Y0 (by simp;omega),Qa];dsimp only;rw[Y0 (by simp;omega),Qa];dsimp only;rw[Y0 (by simp;omega),QwD h.1 h.2,Qd ⟨h.1,by
  have e:∀a:Array UInt8,(⟨a⟩:Bt).size=a.size:=fun _=>rfl;rw[e,XH];simp only[Ye,Yx];omega⟩,Qa]
 exact⟨_,rfl⟩
abbrev ltC (x y:QAr):Bool:=bsl x.User y.User
theorem Qwf {A B:List QAr} {p c:QAr}:((A++p::c::B).set (A.length+1) p).set A.length c=A++c::p::B:=by
 induction A with
 |nil=>rfl
 |cons x r G=>simpa using G
theorem QwS {A B:List QAr} {p c:QAr}:(A++p::c::B).getD A.length default=p∧(A++p::c::B).getD (A.length+1) default=c:=by
 constructor<;>simp[Y1]
noncomputable def inS:List QAr×Int->Option ((List QAr×Int)⊕(Nat×List QAr)):=fun G=>
 gd ((decide (G.2>(0:Int)))=true->((0:Int)<=G.2∧G.2<((G.1.length:Nat):Int)))<|
 gd ((decide (G.2>(0:Int)))=true->((0:Int)<=IntKind.i64.wrap (G.2-1)∧IntKind.i64.wrap (G.2-1)<((G.1.length:Nat):Int)))<|
 bd (gcall ((decide (G.2>(0:Int)))=true) (ZU (G.1.getD G.2.toNat default) (G.1.getD ((IntKind.i64.wrap (G.2-1)).toNat) default))) fun O=>
(if((decide (G.2>(0:Int)))&&(decide (O<0)))=true then
 gd ((0:Int)<=IntKind.i64.wrap (G.2-1)∧IntKind.i64.wrap (G.2-1)<((G.1.length:Nat):Int))<|
 gd ((0:Int)<=G.2∧G.2<((G.1.length:Nat):Int))<|
 gd ((0:Int)<=G.2∧G.2<((G.1.length:Nat):Int))<|
 bd (some (G.1.set G.2.toNat (G.1.getD ((IntKind.i64.wrap (G.2-1)).toNat) default))) fun J=>
 gd ((0:Int)<=IntKind.i64.wrap (G.2-1)∧IntKind.i64.wrap (G.2-1)<((G.1.length:Nat):Int))<|
 bd (some (J.set ((IntKind.i64.wrap (G.2-1)).toNat) (G.1.getD G.2.toNat default))) fun I=>
 some (.inl (I,IntKind.i64.wrap (G.2-1)))
else
 some (.inr (G.1.length,G.1)))
theorem QqB {xs:List QAr} {i:Nat} (hi:i<xs.length) (hl:xs.length<=1000) (h:i=0∨ltC (xs.getD i default) (xs.getD (i-1) default)=false):lp inS (xs,(i:Int))=some (xs.length,xs):=by
 refine Z8 ?_;unfold inS;dsimp only;rcases X9 i with G|G
 ·subst G;rw[Qd (fun h=>absurd h (by simp)),Qd (fun h=>absurd h (by simp)),QO (by simp),Qa,Y0 (by simp)]
 ·have hb:bsl (xs.getD i default).User (xs.getD (i-1) default).User=false:=h.resolve_left (by omega);have I:IntKind.i64.wrap ((i:Int) -1)=((i-1:Nat):Int):=(Qm (by omega) (by omega)).trans (by omega);rw[Qd (fun _=>by omega),I,Qd (fun _=>by omega),Y3,Y3,Qe (by simp;omega)];unfold ZU;rw[hb,Y0 (by decide),Qa,Y0 (by simp)]
theorem Qyx {A B:List QAr} {p c:QAr} (hl:(A++p::c::B).length<=1000) (h:ltC c p=true):lp inS (A++p::c::B,((A.length+1:Nat):Int))=lp inS (A++c::p::B,(A.length:Int)):=by
 have hlen:(A++p::c::B).length=A.length+2+B.length:=by simp;omega
 have⟨m1,m2⟩:=QwS (A:=A) (B:=B) (p:=p) (c:=c);have G:IntKind.i64.wrap (((A.length+1:Nat):Int) -1)=(A.length:Int):=(Qm (by omega) (by omega)).trans (by omega);refine J2 ?_;unfold inS;dsimp only;rw[Qd (fun _=>by omega),G,Qd (fun _=>by omega),Y3,Y3,m1,m2,Qe (by simp)];have h:bsl c.User p.User=true:=h;unfold ZU;rw[h,Y2 rfl,Qa,Y2 (by simp),Qd (by omega),Qd (by omega),Qd (by omega),Qa,Qd (by omega),Qa,Qwf]
theorem QuF {c:QAr}:∀(n:Nat) {A B:List QAr},A.length=n->A.Pairwise (fun x y=>ltC x y=true)->(A++c::B).length<=1000->(∀x∈A,x.User≠c.User)->lp inS (A++c::B,(n:Int))=some ((A++c::B).length,(QfV A c)++B)
 |0,A,B,hn,hp,hl,hu=>by
  obtain rfl:A=[]:=Yv hn;exact QqB (xs:=c::B) (by simp) hl (.inl rfl)
 |n+1,A,B,hn,hp,hl,hu=>by
  obtain⟨G,p,rfl⟩:∃G p,A=G++[p]:=⟨A.dropLast,A.getLast (by intro e;rw[e] at hn;cases hn),(List.dropLast_concat_getLast _).symm⟩;have O:G.length=n:=by simpa using hn
  subst O;have Y:G++[p]++c::B=G++p::c::B:=by simp
  rw[XE] at hp;have⟨p1,_,p3⟩:=hp;have U:p.User≠c.User:=hu p (by simp);rw[Y] at hl|-
  by_cases h:ltC c p=true
  ·rw[Qyx hl h,QuF G.length (A:=G) (B:=p::B) rfl p1 (by simp at hl|-;omega) fun x I=>hu x (by simp[I])];have:QfV (G++[p]) c=QfV G c++[p]:=by
    unfold QfV;rw[Xb,Xb];have h1:([p].filter fun x=>bsl x.User c.User)=[]:=by rw[YW,QeG h];rfl
    have h2:([p].filter fun x=>bsl c.User x.User)=[p]:=by rw[YW,show bsl c.User p.User=true from h];rfl
    rw[h1,h2];simp
   rw[this];simp
  ·simp only[Bool.not_eq_true] at h;have h2:bsl p.User c.User=true:=by
    cases e:bsl p.User c.User
    ·exact absurd (Qn5 e h) U
    ·rfl
   have⟨m1,m2⟩:=QwS (A:=G) (B:=B) (p:=p) (c:=c);rw[QqB (by simp) hl (.inr (by rw[show G.length+1-1=G.length by omega,m1,m2];exact h))];have J:∀x∈G++[p],bsl x.User c.User=true:=fun x I=>by
    rcases Yo.1 I with I|I
    ·exact Qfd (p3 x I p (by simp)) h2
    ·rw[Xa.1 I];exact h2
   have:=Qm3 (A:=G++[p]) (B:=[]) (c:=c) J fun x I=>(by cases I);rw[Xr] at this;rw[this];simp
theorem Qwg {A:List QAr} {c:QAr} (hp:A.Pairwise fun x y=>ltC x y=true) (hl:A.length<=10) (hu:∀x∈A,x.User≠c.User):Qp (A++[c])=some (QfV A c):=by
 have I:(A++[c]).length=A.length+1:=by simp
 have G:(QfV A c).length=A.length+1:=by
  have h1:=Qpp (xs:=A) (u:=c.User);have:∀(xs:List QAr),(∀x∈xs,x.User≠c.User)->(xs.filter fun x=>bsl x.User c.User).length+(xs.filter fun x=>bsl c.User x.User).length=xs.length:=fun xs h=>by
   induction xs with
   |nil=>rfl
   |cons x r ih=>
    have ih:=ih fun y hy=>h y (Yp _ hy);simp only[YW,Ye]
    by_cases h1:bsl x.User c.User=true
    ·rw[Y2 h1,QeG h1];simp only[Yu,X6,Ye];omega
    ·by_cases h2:bsl c.User x.User=true
     ·rw[Y0 h1,Y2 h2];simp only[Ye];omega
     ·exact absurd (Qn5 (by simpa using h1) (by simpa using h2)) (h x (List.mem_cons_self ..))
  unfold QfV;rw[Yk,Ye];have:=this A hu;omega
 have O:QA (A++[c]) 0 ((A.length+1:Nat):Int)=some (QfV A c):=by
  unfold QA;have U:IntKind.i64.wrap ((0:Int)+1)=((0+1:Nat):Int):=rfl;have Y:A.length=0->A++[c]=QfV A c:=fun h=>by
   obtain rfl:A=[]:=Yv h
   rfl
  rw[U];have J:=Qx7 (σ:=List QAr×Int) (β:=((List QAr)×Nat)) (step:=fun s1=>
(if(decide (s1.2<((A.length+1:Nat):Int)))=true then
 bd (lp inS (s1.1,s1.2)) fun x8=>
 some (.inl (x8.2,IntKind.i64.wrap (s1.2+1)))
else
 some (.inr (s1.1,s1.1.length)))) A.length (fun q=>(if q<A.length then A++[c] else QfV A c,((q+1:Nat):Int))) (QfV A c,(QfV A c).length) (fun q hq=>?_) ?_
  ·have es:(if 0<A.length then A++[c] else QfV A c)=A++[c]:=by
    split
    ·rfl
    ·exact(Y (by omega)).symm
   rw[es] at J;refine(congrArg (fun m=>bd m _) J).trans ?_;rw[Qa];exact Qd (by dsimp only;omega)
  ·dsimp only;rw[Y2 (show decide (((q+1:Nat):Int)<((A.length+1:Nat):Int))=true by simp;omega),Y2 hq,Qj (n:=A.length+1) (by omega) (by omega)]
   by_cases h1:q+1<A.length
   ·rw[QqB (xs:=A++[c]) (by omega) (by omega) (.inr ?_),Qa,Y2 h1];have hg:∀i,i<A.length->(A++[c]).getD i default=A[i]!:=fun i hi=>by simp[Y1,Yy hi,hi]
    have ha:(A++[c]).getD (q+1) default=A.getD (q+1) default:=by simp[Y1,Yy h1]
    have hb:(A++[c]).getD q default=A.getD q default:=by simp[Y1,Yy hq]
    rw[show q+1-1=q by omega,ha,hb];exact QeG (Qqw (cs:=A) hp (i:=q+1) (by omega) h1)
   ·have e1:((q+1:Nat):Int)=(A.length:Int):=by omega
    have:=QuF (c:=c) A.length (A:=A) (B:=[]) rfl hp (by rw[I];omega) hu;rw[e1,this,Qa,Y0 h1,Xr]
  ·dsimp only;rw[Y0 (by simp),Y0 (by omega)]
 unfold Qp QY;have⟨k,hk⟩:=QuE (n:=((A.length+1:Nat):Int)) (by omega);have eu:IntKind.u64.wrap ((A.length+1:Nat):Int)=((A.length+1:Nat):Int):=by
  unfold IntKind.wrap;simp[IntKind.signed,IntKind.bits];omega
 rw[I,eu,hk,Qa,Z8 (b:=QfV A c),Qa,Qa,Qd G];rw[Y2 (by rw[Qm (by omega) (by omega)];exact Yd (by omega)),O,Qa,Qd G]
theorem Qpy (cs:List QAr) (c:QAr):QfV (cs.filter fun x=>!(x.User==c.User)) c=QfV cs c:=by
 unfold QfV;rw[List.filter_filter,List.filter_filter];have h1:(fun x:QAr=>bsl x.User c.User&& !(x.User==c.User))=fun x=>bsl x.User c.User:=funext fun x=>by
  cases h:bsl x.User c.User
  ·rfl
  ·rw[Qpn fun e=>by rw[e,QgK] at h;cases h];rfl
 have h2:(fun x:QAr=>bsl c.User x.User&& !(x.User==c.User))=fun x=>bsl c.User x.User:=funext fun x=>by
  cases h:bsl c.User x.User
  ·rfl
  ·rw[Qpn fun e=>by rw[e,QgK] at h;cases h];rfl
 rw[h1,h2]
section
variable {lv la:Int} {a o:QAu} {cs:List QAr} {b:QAs} {j:QAt}
theorem QuG {β:Type} {u:Bt} {P:Nat⊕Unit->Option β} (h3:cs.length<=1000):bd (lp (σ:=Int) (β:=(Nat⊕Unit)) (fun s1=>
  (if(decide (s1<((cs.length:Nat):Int)))=true then
  gd ((0:Int)<=s1∧s1<((cs.length:Nat):Int))<|
  (if(((cs.getD s1.toNat default).User)==u)=true then
  gd ((0:Int)<=s1∧s1<((cs.length:Nat):Int))<|
  some (.inr (.inl s1.toNat))
  else
  some (.inl (IntKind.i64.wrap (s1+1))))
  else
  some (.inr (.inr ())))) 0) P=P (match atU cs u with|some k=>.inl k|none=>.inr ()):=by
 unfold atU;rw[Jp cs.length (fun i=>(cs.getD i default).User==u) (fun i=>.inl i) (.inr ()) (fun i hi=>?_) ?_,Qa,QfL (p:=fun c:QAr=>c.User==u)]
 ·cases ZQ (fun i=>(cs.getD i default).User==u) cs.length<;>rfl
 ·rw[Y0 (by simp)]
 ·have G:(0:Int)<=(i:Int)∧(i:Int)<((cs.length:Nat):Int):=by omega
  rw[Y2 (Yd G.2),Qd G,Y3,Qd G,Qj hi (by omega)];split<;>rfl
theorem Qpz {s:QAv} (h:Ok s) (hu:s.Up=true) (u:Bt):Qu s ⟨1,u,ByteArray.empty,0⟩=some (QdQ s u):=by
 cases h with
 |down lv la a o D=>cases hu
 |up lv la a o cs b j D C P=>
  have a1:Ok ⟨true,b,two lv a o,lv,la,j⟩:=.up lv la a o cs b j D C P;have hF:=(P.force D).neat
  have⟨r,hr⟩:=Qm5 hF u;have hc:=P.cands;have h3:=C.few;have hd:Qr ⟨true,b,two lv a o,lv,la,j⟩ ⟨1,u,ByteArray.empty,0⟩=some ((QdQ ⟨true,b,two lv a o,lv,la,j⟩ u).2,(QdQ ⟨true,b,two lv a o,lv,la,j⟩ u).1):=by
   unfold Qr;dsimp only;rw[Y2 (by decide)];unfold Qbc QdQ;dsimp only;rw[hr,Qa]
   cases isU b.Lines u
   ·rw[Y2 (show(!false)=true from rfl),Y2 rfl,Qa]
   rw[Y0 (show ¬((!true)=true) by decide),Y0 (show ¬(true=false) by decide)];have Y:QS b.Lines=some b.Lines:=Qn3 (by have:=hF.len;omega);have hfl:(cs.filter fun c=>!(c.User==u)).length<=cs.length:=Xe _ _;have O:bd (Q8 ⟨true,b,two lv a o,lv,la,j⟩ u) (fun I=>bd (QS b.Lines) fun J=>bd (QS b.Lines) fun G=>gd (((I.Box.Cands.length)+(([(⟨u,b.Edition,J,G⟩:QAr)]:List QAr).length))*(72+1)<=70368744177664)<|bd (Qp (I.Box.Cands++([(⟨u,b.Edition,J,G⟩:QAr)]:List QAr))) fun U=>gd (U.length=(I.Box.Cands++([(⟨u,b.Edition,J,G⟩:QAr)]:List QAr)).length)<|some ((0:Int),({(⟨true,b,two lv a o,lv,la,j⟩:QAv) with Box:={b with Cands:=U}}:QAv)))=some (0,Qya ⟨true,b,two lv a o,lv,la,j⟩ (QfV cs ⟨u,b.Edition,b.Lines,b.Lines⟩)):=by
    have hs:=Qwg (A:=cs.filter fun c=>!(c.User==u)) (c:=⟨u,b.Edition,b.Lines,b.Lines⟩) (C.rise.filter _) (by omega) fun x hx e=>by
     have:=(YB.1 hx).2;dsimp only at e;rw[e,Qfc] at this
     cases this
    rw[Qpy cs ⟨u,b.Edition,b.Lines,b.Lines⟩] at hs;have a2:(QfV cs ⟨u,b.Edition,b.Lines,b.Lines⟩).length=((cs.filter fun c=>!(c.User==u))++[(⟨u,b.Edition,b.Lines,b.Lines⟩:QAr)]).length:=by
     have:=Qpy cs ⟨u,b.Edition,b.Lines,b.Lines⟩;rw[<-this];unfold Qp at hs;have⟨x1,_,hs⟩:=Qb hs;have⟨x2,_,hs⟩:=Qb hs;have⟨g,hs⟩:=Qf hs;obtain rfl:=Yw hs;rw[this];exact g
    rw[Qm6 (by dsimp only;rw[hc];omega),Qa,Y,Qa,Qa];dsimp only;rw[hc,Qd (by rw[List.length_singleton];omega),hs,Qa,Qd a2]
    rfl
   rw[hc,QuG (by omega)]
   cases hat:atU cs u with
   |some k=>
    dsimp only;rw[Y0 (by simp),Qa,Y0 (fun e=>by cases e.1)];dsimp only;rw[O,Qa]
    rfl
   |none=>
    dsimp only
    by_cases hl:cs.length=3
    ·rw[Y2 (by rw[hl];rfl),Qa,Y2 ⟨rfl,hl⟩];dsimp only;rw[Qa]
    ·rw[Y0 (by simp;omega),Qa,Y0 (fun e=>hl e.2)];dsimp only;rw[O,Qa]
     rfl
  have:=Qpw (e:=⟨1,u,ByteArray.empty,0⟩) a1 (show(1:Int)<=1∧(1:Int)<=10 by decide) (show ¬(true=false) by decide) hd;rw[this];unfold QdQ;dsimp only;split
  ·rfl
  split
  ·rfl
  ·rfl
end
end Go.Proofs.YtoknnjiangjccaaGreatDoor
