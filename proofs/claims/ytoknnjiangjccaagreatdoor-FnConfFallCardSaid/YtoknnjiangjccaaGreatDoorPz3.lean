/-
  Plain Lean: what the models of functions compute; no condition.
-/
import Derived.Test.YtoknnjiangjccaaGreatDoorKz6
import Derived.Test.YtoknnjiangjccaaGreatDoorPz2
import Derived.Test.YtoknnjiangjccaaGreatDoorPz1
set_option linter.all false
namespace Go.Proofs.YtoknnjiangjccaaGreatDoor
open Go Go.Ab
set_option maxHeartbeats 4000000
set_option maxRecDepth 100000
theorem Qhh {xs:List Bt} (h:nB xs):Q3 xs=some 0:=by
 have:=QtY (ls:=xs.map tB) h.short' (by rw[Ya];have:=h.len;omega);rwa[Qqi,show Qcj (xs.map tB)=0 from h] at this
theorem QlB {xs:List Bt} (h:cB xs):Zt xs=some 0:=by
 have:=QnZ (ls:=xs.map tB) h.neat.short' (by rw[Ya];have:=h.neat.len;omega);rwa[Qqi,show QcU (xs.map tB)=0 from h] at this
theorem QfJ {xs:List Bt} (h:xs.length<=1000):Z3 xs=some xs:=Qd (by omega)
theorem Qn7 {xs:List Bt} (h:xs.length<=1000):Jl xs xs=some true:=by
 unfold Jl;rw[Y1 (by simp),Qsi xs.length (.inr ()) (fun i hi=>?_) ?_,Qa]
 ·rw[Y1 (by simp)]
 ·have G:(0:Int)<=(i:Int)∧(i:Int)<((xs.length:Nat):Int):=by omega
  rw[Y2 (Yd G.2),Qd G,Qd G,Y1 (by simp),Qk hi (by omega)]
section
variable {lv la:Int} {a o:QAj} {cs:List QAg} {b:QAh} {j:QAi}
theorem Qql {s:QAk} (h:StFew s):Qa2 s=some s:=by
 unfold Qa2;have hc:=h.box.cands;have hs:=h.slots;rw[QfJ h.box.lines,Qa,QfJ h.box.back,Qa,QhQ s.Box.Cands.length (fun i=>s.Box.Cands.getD i default) (fun ys=>(ys.length,ys)) (fun i a hi ha=>?_) (fun a ha=>?_),Qa,QhQ s.Slots.length (fun i=>s.Slots.getD i default) (fun ys=>(ys.length,ys)) (fun i a hi ha=>?_) (fun a ha=>?_),Qa,QfJ h.job,Qa]
 ·have e1:=QdI s.Box.Cands id;have I:=QdI s.Slots id;simp only[id_eq,List.map_id] at e1 I;dsimp only;rw[e1,I]
 ·have hm:=h.slot _ (Zd hi);have G:(0:Int)<=(i:Int)∧(i:Int)<((s.Slots.length:Nat):Int):=by omega
  dsimp only;rw[Y2 (Yd G.2),Qd G,Y4,QfJ hm,Qa,Qd (by rw[List.length_singleton];omega),Qk hi (by omega)]
 ·dsimp only;rw[Y1 (by simp)]
 ·have hm:=h.box.cand _ (Zd hi);have G:(0:Int)<=(i:Int)∧(i:Int)<((s.Box.Cands.length:Nat):Int):=by omega
  dsimp only;rw[Y2 (Yd G.2),Qd G,Y4,QfJ hm.1,Qa,QfJ hm.2,Qa,Qd (by rw[List.length_singleton];omega),Qk hi (by omega)]
 ·dsimp only;rw[Y1 (by simp)]
theorem Qum {s:QAk} {p:QAj} (h:SlotB s.Last p):QaS s p=some true:=by
 unfold QaS
 cases e:p.Whole
 ·have⟨h1,h2,h3⟩:=h.part e;rw[Y2 (by rfl),h1,h2,Qe (by rfl),Qhh h3,Qa]
  rfl
 ·have⟨h1,h2,h3⟩:=h.whole e;have G:QO p.Edition 0 s.Last=some true:=by
   show some (decide (0<=_)&&decide (_<=_))=_;rw[Yd h1,Yd h2];rfl
  rw[Y1 (by decide),G,Qa,Qe rfl,QlB h3,Qa]
  rfl
theorem Qun {up:Bool} (D:Disk lv la a o):QbZ ⟨up,b,two lv a o,lv,la,j⟩=some true:=by
 have I:SlotB la ((two lv a o).getD 0 default):=by rcases D.lv with rfl|rfl<;>first|exact D.ab|exact D.ob
 have h1:SlotB la ((two lv a o).getD 1 default):=by rcases D.lv with rfl|rfl<;>first|exact D.ab|exact D.ob
 have e1:QO lv 0 1=some true:=by rcases D.lv with rfl|rfl<;>rfl
 have O:QO la 0 1000000=some true:=by
  show some (decide (0<=la)&&decide (la<=1000000))=_;rw[Yd D.l0,Yd D.l1];rfl
 unfold QbZ;dsimp only;have Y:((((2:Nat):Int)) !=2)=false:=rfl;rw[Qba,Y,Qe rfl,e1,Qa,Qe (by rfl),O,Qa,Qd (fun _=>by decide),Qe (by rfl),Qum (s:=⟨up,b,two lv a o,lv,la,j⟩) I,Qa,Qd (fun _=>by decide),Qe (by rfl),Qum (s:=⟨up,b,two lv a o,lv,la,j⟩) h1,Qa,Y1 (by decide),Qd (QfR D.lv),QiI D.lv,Qd (QbH D.lv),Qay D.lv,Qa9 D.lv,D.aw]
 cases ht:a.Trial
 ·rfl
 ·have⟨U,t2,G,J⟩:=D.tr ht;rw[t2,G,U,Yd J];simp
theorem QvX {up:Bool} (D:Disk lv la a o) (h:QhX b.Edition la a.Edition):Qbi ⟨up,b,two lv a o,lv,la,j⟩=some true:=by
 have l0:=D.l0;have l1:=D.l1;unfold Qbi;dsimp only;rw[Qba,Qd (fun _ _=>QfR D.lv),Qay D.lv,Qo (by omega) (by omega)];unfold QhX at h;rcases h with ⟨h1,h2⟩|⟨h1,h2⟩
 ·rw[h1,h2];simp
 ·rw[h1];simp
theorem QhZ {x lo hi:Int} (G:lo<=x) (h1:x<=hi):QO x lo hi=some true:=by
 show some (decide (_<=_)&&decide (_<=_))=_;rw[Yd G,Yd h1];rfl
theorem QvY (D:Disk lv la a o) (P:Phase la a o cs b j):Qcr ⟨true,b,two lv a o,lv,la,j⟩=some true:=by
 have l0:=D.l0;have l1:=D.l1;have hA:=D.ab.few;have hO:=D.ob.few;have G:=P.ed D;have J:=Qn7 (xs:=a.Lines) (by omega);have O:=Qn7 (xs:=o.Lines) (by omega);have U:=QvX (up:=true) (b:=b) (j:=j) D;unfold Qcr;dsimp only;rw[Qba,Qd (QfR D.lv),QiI D.lv,Qd (QbH D.lv),Qay D.lv,Qa9 D.lv]
 cases P with
 |trial T k ht h1 h9 hk=>
  dsimp only;rw[Y2 (Yd (by omega)),ht,Yd h9,Qe (by rfl),J,Qa,Qe (by rfl),O,Qa];rcases hk with rfl|rfl
  ·rw[Qe (by simp),show Zg (jK 0)=some true from rfl,Qa,QL (by simp),Qa];simp
  ·rw[Qe (by simp),show Zg (jK 2)=some false from rfl,Qa,Qe (by simp),show Qa5 (jK 2) 2=some true from rfl,Qa];simp
 |back ht=>
  dsimp only;rw[Y1 (by simp),Y1 (by simp),Y2 ht,O,Qa,Qo (by omega) (by omega),Qe (by simp),show Qa5 (jK 3) 3=some true from rfl,Qa];simp
 |idle E ht hE=>
  dsimp only;rw[Y1 (by simp),Y1 (by simp),Y1 (by rw[ht];decide),J,Qa,Y1 (by decide),show Zg (jK 0)=some true from rfl,Qa,Y2 rfl,U hE,Qa]
 |start E t js ht I hm hj t0 t9=>
  dsimp only at G|-;have hn:Zg (⟨1,0,E+1,t,js⟩:QAi)=some false:=rfl;have hc:Z9 ⟨true,⟨E,a.Lines,0,[],cs⟩,two lv a o,lv,la,⟨1,0,E+1,t,js⟩⟩=some true:=by
   have hl:=hj.neat.len;unfold Z9;dsimp only;rw[Qe (by rfl),QlB hj,Qa,Qe (by rfl),Qo (n:=(js.length:Int)+2) (by omega) (by omega),QhZ (by omega) (by omega),Qa,Qe (by rfl),QhZ t0 t9,Qa,Qo (n:=E+1) (by omega) (by omega),Y1 (by simp;omega),QL (by decide),Qa]
   rfl
  rw[Y1 (by simp),Y1 (by simp),Y1 (by rw[ht];decide),J,Qa,Y1 (by decide),hn,Qa,Y1 (by decide),hc,Qa,Qe (by simp),U I,Qa]
  rfl
 |part E t js k ht I ha hj t0 t9 hk ho=>
  dsimp only at G|-;have hn:Zg (⟨1,(k:Int)+1,E+1,t,js⟩:QAi)=some false:=rfl;have hc:Z9 ⟨true,⟨E,a.Lines,0,[],cs⟩,two lv a o,lv,la,⟨1,(k:Int)+1,E+1,t,js⟩⟩=some true:=by
   have hl:=hj.neat.len;unfold Z9 QdV;dsimp only;rw[Qe (by rfl),QlB hj,Qa,Qe (by rfl),Qo (n:=(js.length:Int)+2) (by omega) (by omega),QhZ (by omega) (by omega),Qa,Qe (by rfl),QhZ t0 t9,Qa,Qo (n:=E+1) (by omega) (by omega),Y1 (by simp;omega),Qe (by simp;omega),Qba,QiI D.lv,Qd (QbH D.lv),Y1 (by simp;omega),Y1 (by simp;omega),Qa9 D.lv,Qo (n:=(k:Int)+1-1) (by omega) (by omega),show((k:Int)+1-1).toNat=k by omega,ho];dsimp only;rw[Qd (fun _=>by omega),Qe (by rfl),Qn7 (by rw[Yp];omega),Qa,Qa];simp
  rw[Y1 (by simp),Y1 (by simp),Y1 (by rw[ht];decide),J,Qa,Y1 (by decide),hn,Qa,Y1 (by decide),hc,Qa,QL (by simp;try omega),Qa,Yd (by omega)]
  rfl
 |done E t js ht I ha hj t0 t9 ho=>
  dsimp only at G|-;have hn:Zg (⟨1,(js.length:Int)+2,E+1,t,js⟩:QAi)=some false:=rfl;have hc:Z9 ⟨true,⟨E,a.Lines,0,[],cs⟩,two lv a o,lv,la,⟨1,(js.length:Int)+2,E+1,t,js⟩⟩=some true:=by
   have hl:=hj.neat.len;unfold Z9 QdV;dsimp only;rw[Qe (by rfl),QlB hj,Qa,Qe (by rfl),Qo (n:=(js.length:Int)+2) (by omega) (by omega),QhZ (by omega) (by omega),Qa,Qe (by rfl),QhZ t0 t9,Qa,Qo (n:=E+1) (by omega) (by omega),Y1 (by simp;omega),Qe (by simp;omega),Qba,QiI D.lv,Qd (QbH D.lv),Y1 (by simp;omega),Y2 (by simp),Qa9 D.lv,ho];dsimp only;rw[Qe (by simp),Qn7 (by omega),Qa,Qa];simp
  rw[Y1 (by simp),Y1 (by simp),Y1 (by rw[ht];decide),J,Qa,Y1 (by decide),hn,Qa,Y1 (by decide),hc,Qa,QL (by simp;omega),Qa,Yd (by omega)]
  rfl
theorem Qzn {s:Bt} (h:Qc6 (tB s)=true):Zr s=some true:=by
 have:=Qjh (w:=tB s) (QlA h);rwa[Qgx,h] at this
theorem QvZ {b:QAh} (h:CandsB b.Edition b.Cands):Qcs b=some true:=by
 unfold Qcs;have hf:=h.few;rw[Y1 (by simp;omega),Qsi b.Cands.length (.inr ()) (fun i hi=>?_) ?_,Qa]
 ·rw[Y1 (by simp)]
 ·have hc:=h.each _ (Zd hi);have J:(0:Int)<=(i:Int)∧(i:Int)<((b.Cands.length:Nat):Int):=by omega
  have I:0<i->IntKind.i64.wrap ((i:Int) -1)=((i-1:Nat):Int):=fun G=>by rw[Qo (by omega) (by omega)];omega
  have O:(decide ((i:Int)>0)&&(!(bsl ((b.Cands.getD ((IntKind.i64.wrap ((i:Int) -1)).toNat) default).User) ((b.Cands.getD i default).User))))=false:=by
   cases G:decide ((i:Int)>0)
   ·rfl
   ·have hp:0<i:=by have:=Ym G;omega
    rw[I hp,Y4,Qul h.rise hp hi];rfl
  rw[Y2 (Yd J.2),Qd J,Y4,Qzn hc.name,Qa,Qe (by rfl),QhZ hc.b0 hc.b1,Qa,Qe (by rfl),Qhh hc.rows,Qa,Qe (by rfl),Qhh hc.lines,Qa,Qd (fun G _=>by have:0<i:=(by have:=Ym G;omega);rw[I this];omega),O,Y1 (by decide),Qk hi (by omega)]
end
theorem Qz1 {s:QAk} (h:Ok s):Qbb s=some true:=by
 unfold Qbb
 cases h with
 |down lv la a o D=>
  rw[Qun D,Qa,Y1 (by decide),Y2 (by rfl),Qe (by rfl),show Zg (jK 0)=some true from rfl,Qa]
  rfl
 |up lv la a o cs b j D C P=>
  have hb:CandsB b.Edition b.Cands:=by rw[P.cands];exact C
  rw[Qun D,Qa,Y1 (by decide),Y1 (by simp),QvY D P,Qa,Qe rfl,QvZ hb,Qa]
  rfl
theorem Qh0 {α:Type} [Inhabited α] {p:α->Bool} {xs:List α}:xs.findIdx? p=Jc (fun i=>p (xs.getD i default)) xs.length:=by
 have G:∀i (h:i<xs.length),xs.getD i default=xs[i]:=fun i h=>by simp[Y0,h]
 cases h:Jc (fun i=>p (xs.getD i default)) xs.length with
 |none=>
  refine List.findIdx?_eq_none_iff.2 fun x I=>?_;have⟨i,hi,e⟩:=Xm I;have:=Qcc h i hi;rw[G i hi,e] at this;exact this
 |some i=>
  have⟨h1,h2,h3⟩:=Qcb h;refine List.findIdx?_eq_some_iff_getElem.2 ⟨h1,by rw[<-G i h1];exact h2,fun j hj=>?_⟩;have:=h3 j hj;rw[G j (by omega)] at this;rw[this];decide
def atI (o:Option Nat):Int:=match o with|some i=>(i:Int)|none=>-1
def kfB (s:Bt):Bt:=tS (Qc8 (tB s))
theorem Qyc {s:Bt} (h:s.size<=1000000):ZI s=some (kfB s):=by
 have:=QtX (l:=tB s) (by rw[Qiy];exact h);rwa[Qgx] at this
theorem Qrj {ls:List Bt} {k:Bt} (h:nB ls):Qai ls k=some (atI (ls.findIdx? fun l=>kfB l==k)):=by
 have hl:=h.len;unfold Qai;rw[J5 ls.length (fun i=>kfB (ls.getD i default)==k) (fun i=>.inl (i:Int)) (.inr ()) (fun i hi=>?_) ?_,Qa,<-Qh0 (p:=fun l:Bt=>kfB l==k)]
 ·cases ls.findIdx? fun l=>kfB l==k<;>rfl
 ·rw[Y1 (by simp)]
 ·have G:(0:Int)<=(i:Int)∧(i:Int)<((ls.length:Nat):Int):=by omega
  rw[Y2 (Yd G.2),Qd G,Y4,Qyc (by have:=h.short (Zd hi);omega),Qa,Qk hi (by omega)];split<;>rfl
theorem Qn8 {ls:List Bt} {k:Bt} (h:nB ls):Ja ls k=some (match ls.findIdx? fun l=>kfB l==k with|some i=>ls.getD i default|none=>⟨#[]⟩):=by
 unfold Ja;rw[Qrj h,Qa]
 cases e:ls.findIdx? fun l=>kfB l==k with
 |none=>exact Y2 (by decide)
 |some i=>
  have hi:=(List.findIdx?_eq_some_iff_getElem.1 e).1;show(if decide ((i:Int)<0)=true then _ else _)=_;rw[Y1 (by simp),Qd (by show(0:Int)<=(i:Int)∧(i:Int)<_;omega)]
  rfl
theorem Qv0 {l u:Bs} (h:QaE l=true):(Qc8 l=Qau++32::u)↔((wsL l).getD 0 []=Qau∧(wsL l).getD 1 []=u):=by
 have⟨ws,_,hb,_,G⟩:=QbV h;unfold Qc8;rw[h,XP,G];have F:=Qsd hb
 cases F with
 | @user b c h1 h2=>
  have e:QbU (([Qau,b,c]:List Bs).take (keyN (([Qau,b,c]:List Bs).getD 0 [])))=Qau++32::b:=by
   show Qau++((32::b)++[])=_;rw[XJ]
  rw[e]
  constructor
  ·intro I;refine⟨rfl,?_⟩;have:=List.append_cancel_left I;exact(List.cons.inj this).2
  ·rintro⟨_,rfl⟩;rfl
 |host h1=>exact⟨fun e=>absurd (congrArg (fun x:Bs=>x.headD 0) e) (show ¬(104:UInt8)=117 by decide),fun e=>absurd e.1 (by show ¬QfI=Qau;decide)⟩
 |port h1 h2=>exact⟨fun e=>absurd (congrArg (fun x:Bs=>x.headD 0) e) (show ¬(112:UInt8)=117 by decide),fun e=>absurd e.1 (by show ¬Q1=Qau;decide)⟩
 |port2 h1 h2 h3=>exact⟨fun e=>absurd (congrArg (fun x:Bs=>x.headD 0) e) (show ¬(112:UInt8)=117 by decide),fun e=>absurd e.1 (by show ¬Q1=Qau;decide)⟩
 |rule h1 h2 h3 h4 h5 h6=>exact⟨fun e=>absurd (congrArg (fun x:Bs=>x.headD 0) e) (show ¬(114:UInt8)=117 by decide),fun e=>absurd e.1 (by show ¬QaF=Qau;decide)⟩
 |route h1 h2=>exact⟨fun e=>absurd (congrArg (fun x:Bs=>x.headD 0) e) (show ¬(114:UInt8)=117 by decide),fun e=>absurd e.1 (by show ¬QaG=Qau;decide)⟩
 |peer h1 h2 h3=>exact⟨fun e=>absurd (congrArg (fun x:Bs=>x.headD 0) e) (show ¬(112:UInt8)=117 by decide),fun e=>absurd e.1 (by show ¬QbE=Qau;decide)⟩
 |nat h1 h2 h3 h4=>exact⟨fun e=>absurd (congrArg (fun x:Bs=>x.headD 0) e) (show ¬(110:UInt8)=117 by decide),fun e=>absurd e.1 (by show ¬QiK=Qau;decide)⟩
 |door h1 h2 h3 h4=>exact⟨fun e=>absurd (congrArg (fun x:Bs=>x.headD 0) e) (show ¬(100:UInt8)=117 by decide),fun e=>absurd e.1 (by show ¬wDoor=Qau;decide)⟩
theorem Qv1 {ls:List Bt} (h:nB ls) (u:Bt):(ls.findIdx? fun l=>kfB l==(⟨#[117,115,101,114,32]⟩:Bt)++u).isSome=isU ls u:=by
 unfold isU;rw[List.findIdx?_isSome];have:∀l∈ls,(kfB l==(⟨#[117,115,101,114,32]⟩:Bt)++u)=((wsL (tB l)).getD 0 []==Qau&&(wsL (tB l)).getD 1 []==tB u):=fun l hl=>by
  have e1:(⟨#[117,115,101,114,32]⟩:Bt)++u=tS (Qau++32::tB u):=by
   have:(⟨#[117,115,101,114,32]⟩:Bt)=tS [117,115,101,114,32]:=rfl;rw[this]
   conv=>lhs;rw[<-Qgx u]
   rw[Qhf]
   rfl
  rw[e1];unfold kfB;rw[Jk,YI,X7,Y3,X7,X7];exact Qv0 (h.kept hl)
 rw[YI,YH,YH]
 constructor
 ·rintro⟨l,hl,e⟩;exact⟨l,hl,by rw[<-this l hl];exact e⟩
 ·rintro⟨l,hl,e⟩;exact⟨l,hl,by rw[this l hl];exact e⟩
theorem Qyd {s:Bt} (h:QaE (tB s)=true):(s==(⟨#[]⟩:Bt))=false:=by
 cases e:(s==(⟨#[]⟩:Bt))
 ·rfl
 ·rw[Nc.bq.1 e] at h;exact absurd h (by decide)
theorem QwK {u:Bt} (h:u.size<=1000000):Zr u=some (Qc6 (tB u)):=by
 have:=Qjh (w:=tB u) (by rw[Qiy];exact h);rwa[Qgx] at this
theorem Quo {ls:List Bt} (h:nB ls) {u:Bt} (G:u.size<=1000000):QbK ls u=some (isU ls u):=by
 unfold QbK;rw[QwK G,Qa,Qd (fun _=>by
  have:(⟨#[117,115,101,114,32]⟩:Bt).size=5:=rfl;omega)]
 cases hn:Qc6 (tB u)
 ·rw[QL (by decide),Qa,YN]
  cases hi:isU ls u
  ·rfl
  ·rw[Qpg h hi] at hn;cases hn
 ·rw[Qe rfl,Qn8 h,Qa,Yq,<-Qv1 h u]
  cases e:ls.findIdx? fun l=>kfB l==(⟨#[117,115,101,114,32]⟩:Bt)++u with
  |none=>rfl
  |some i=>
   have hi:=(List.findIdx?_eq_some_iff_getElem.1 e).1;dsimp only;rw[Qyd (h.kept (Zd hi))]
   rfl
theorem Qup {b:QAh} {u:Bt} (h:b.Cands.length<=1000):Qcd b u=some (atI (atU b.Cands u)):=by
 unfold Qcd atU;rw[J5 b.Cands.length (fun i=>(b.Cands.getD i default).User==u) (fun i=>.inl (i:Int)) (.inr ()) (fun i hi=>?_) ?_,Qa,<-Qh0 (p:=fun c:QAg=>c.User==u)]
 ·cases b.Cands.findIdx? fun c=>c.User==u<;>rfl
 ·rw[Y1 (by simp)]
 ·have G:(0:Int)<=(i:Int)∧(i:Int)<((b.Cands.length:Nat):Int):=by omega
  rw[Y2 (Yd G.2),Qd G,Y4,Qk hi (by omega)];split<;>rfl
theorem QiJ {α:Type} {p:α->Bool} {xs:List α} (h:∀x∈xs,p x=true):xs.filter p=xs:=List.filter_eq_self.2 h
theorem Qn9 {α:Type} {p:α->Bool} {xs:List α} (h:∀x∈xs,p x=false):xs.filter p=[]:=List.filter_eq_nil_iff.2 fun x G=>by rw[h x G];decide
theorem Qsp {A B:List QAg} {c:QAg} (I:∀x∈A,bsl x.User c.User=true) (hB:∀x∈B,bsl c.User x.User=true):QvU (A++B) c=A++c::B:=by
 unfold QvU;rw[Xb,Xb,QiJ I,Qn9 fun x G=>QiH (hB x G),Qn9 fun x G=>QiH (I x G),QiJ hB];simp
theorem Qv2 {A B:List QAg} {c m:QAg} (hm:m.User=c.User) (I:∀x∈A,bsl x.User c.User=true) (hB:∀x∈B,bsl c.User x.User=true):QvU (A++m::B) c=A++c::B:=by
 unfold QvU;rw[Xb,Xb,Xd,Xd,hm,Qn5,QiJ I,Qn9 fun x G=>QiH (hB x G),Qn9 fun x G=>QiH (I x G),QiJ hB];simp
theorem Qye {cs:List QAg} {c:QAg} {k:Nat} (J:cs.Pairwise fun x y=>bsl x.User y.User=true) (hk:k<cs.length) (G:(cs.getD k default).User=c.User):cs.set k c=QvU cs c:=by
 have e:cs.getD k default=cs[k]:=by simp[Y0,hk]
 rw[e] at G;have hs:cs=cs.take k++cs[k]::cs.drop (k+1):=by simp
 have hp:=J;rw[hs,XS,YU] at hp;have⟨_,⟨h2,_⟩,h3⟩:=hp;rw[List.set_eq_take_append_cons_drop,Y2 hk]
 conv=>rhs;rw[hs]
 exact(Qv2 G (fun x I=>by rw[<-G];exact h3 x I _ (List.mem_cons_self ..)) (fun x I=>by rw[<-G];exact h2 x I)).symm
theorem Qyf {cs:List QAg} {c:QAg} (I:cs.Pairwise fun x y=>bsl x.User y.User=true) (hn:∀x∈cs,x.User≠c.User):QyC (fun x y=>bsl x.User y.User) cs c=QvU cs c:=by
 unfold QyC;have O:∀x∈cs.dropWhile (fun x=>bsl x.User c.User),bsl c.User x.User=true:=by
  induction cs with
  |nil=>intro x G;cases G
  |cons y r U=>
   rw[YU] at I;rw[List.dropWhile_cons];split
   ·exact U I.2 fun x G=>hn x (Yt _ G)
   ·rename_i J;have h1:bsl c.User y.User=true:=by
     cases e:bsl c.User y.User
     ·exact absurd (Quh (by simpa using J) e) (hn y (List.mem_cons_self ..))
     ·rfl
    intro x G;rcases Ye.1 G with rfl|G
    ·exact h1
    ·exact QgE h1 (I.1 x G)
 have ht:∀x∈cs.takeWhile (fun x=>bsl x.User c.User),bsl x.User c.User=true:=fun x G=>Yb.1 (List.all_takeWhile (p:=fun x:QAg=>bsl x.User c.User) (l:=cs)) x G;have:=Qsp (c:=c) ht O;rw[XU] at this;rw[this]
section
variable {lv la:Int} {a o:QAj} {cs:List QAg} {b:QAh} {j:QAi}
theorem Qv3 (D:Disk lv la a o) (C:CandsB b.Edition cs) (P:Phase la a o cs b j) {e:QAl} (I:e.User.size<=1000000):Qct ⟨true,b,two lv a o,lv,la,j⟩ e=some (Qpf ⟨true,b,two lv a o,lv,la,j⟩ e.User):=by
 have O:=(P.force D).neat
 have hc:=P.cands;have h3:=C.few;unfold Qct Qpf;dsimp only;rw[hc,Quo O I,Qa]
 cases isU b.Lines e.User
 ·rw[Y2 (by rfl),Y2 rfl]
 rw[Y1 (show ¬((!true)=true) by decide),Y1 (show ¬(true=false) by decide),Qup (by rw[hc];omega),Qa,hc]
 cases hk:atU cs e.User with
 |some k=>
  have⟨h1,h2,_⟩:=Qjr hk;show(if decide ((k:Int)>=0)=true then _ else _)=_;rw[Y2 (by simp),Qd (by show(0:Int)<=(k:Int)∧(k:Int)<_;omega),Qa,Y1 (fun h=>by cases h.1)];show some (({(⟨true,b,two lv a o,lv,la,j⟩:QAk) with Box:={b with Cands:=cs.set ((k:Int)).toNat _}}:QAk),(0:Int))=_;rw[Y4,Qye (c:=⟨e.User,b.Edition,b.Lines,b.Lines⟩) C.rise h1 h2]
  rfl
 |none=>
  show(if decide ((-1:Int)>=0)=true then _ else _)=_;rw[Y1 (by decide)]
  by_cases hl:cs.length=3
  ·rw[Y2 (by rw[hl];rfl),Y2 ⟨rfl,hl⟩]
  ·rw[Y1 (by simp;omega),Y1 (fun h=>hl h.2),QwI cs (fun x=>bsl x.User e.User) (fun i hi=>?_) ?_,Qa]
   ·have hle:=Qx6 (fun x:QAg=>bsl x.User e.User) cs;have hi:=QwJ (fun x y:QAg=>bsl x.User y.User) cs ⟨e.User,b.Edition,b.Lines,b.Lines⟩;dsimp only at hi;rw[Qd (by omega),Qd (by omega),Qd (by rw[Yp,List.length_singleton];omega),Qd (by omega),Qd (by rw[QZ,Yl,Yp,List.length_singleton];omega),hi,Qyf C.rise fun x J=>Qx8 hk x J]
    rfl
   ·rw[Qd (fun h=>by simp at h),Y1 (by simp)]
   ·have G:(0:Int)<=(i:Int)∧(i:Int)<((cs.length:Nat):Int):=by omega
    rw[Qd (fun _=>G),Yd G.2,Yq,Y4,Qk hi (by omega)];split<;>rfl
theorem Qsq (D:Disk lv la a o) (P:Phase la a o cs b j) {e:QAl} (I:e.User.size<=1000000):Qbw ⟨true,b,two lv a o,lv,la,j⟩ e=some (QiG ⟨true,b,two lv a o,lv,la,j⟩ e.User e.N):=by
 have J:=(P.force D).neat
 have hj:decide (j.Kind>0)=decide (j.Kind≠0):=by cases P with
  |trial T k ht h1 h9 hk=>rcases hk with rfl|rfl<;>rfl
  |_=>rfl
 unfold Qbw QiG;dsimp only;rw[hj]
 by_cases G:b.Trial=0
 ·rw[Y2 (by simpa using G),Y2 G]
 rw[Y1 (by simpa using G),Y1 G]
 by_cases h1:e.N=b.Edition
 ·rw[Y1 (show ¬((e.N !=b.Edition)=true) by simpa using h1),Y1 (show ¬(e.N≠b.Edition) from fun h=>h h1),Quo J I,Qa]
  cases isU b.Lines e.User
  ·rw[Y2 (show(!false)=true from rfl),Y2 rfl]
  ·rw[Y1 (show ¬((!true)=true) by decide),Y1 (show ¬(true=false) by decide)]
   by_cases h2:j.Kind=0
   ·rw[Y1 (show ¬(decide (j.Kind≠0)=true) by simpa using h2),Y1 (show ¬(j.Kind≠0) from fun h=>h h2)]
   ·rw[Y2 (show decide (j.Kind≠0)=true by simpa using h2),Y2 (show j.Kind≠0 from h2)]
 ·rw[Y2 (show(e.N !=b.Edition)=true by simpa using h1),Y2 (show e.N≠b.Edition from h1)]
theorem Qyg (D:Disk lv la a o) (P:Phase la a o cs b j):Qdk ⟨true,b,two lv a o,lv,la,j⟩=some (Qug ⟨true,b,two lv a o,lv,la,j⟩):=by
 have l0:=D.l0;have l1:=D.l1;have hE:=P.ed D;unfold Qdk Qug;dsimp only
 by_cases G:b.Trial=0
 ·rw[Y2 (by simpa using G),Y2 G]
 rw[Y1 (by simpa using G),Y1 G]
 cases P with
 |trial T k ht h1 h9 hk=>
  dsimp only at hE|-;rw[Qo (n:=T-1) (by omega) (by omega),Qo (n:=la+1) (by omega) (by omega)]
  by_cases I:T=1
  ·subst I;rw[Y1 (by decide),Y2 rfl]
   rfl
  ·rw[Y2 (by simp;omega),Y1 I]
 |_=>exact absurd rfl G
theorem Qrk {x:QAj} (h:lv=0∨lv=1):(two lv a o).set (1-lv).toNat x=two lv a x:=by
 rcases h with rfl|rfl<;>rfl
theorem Qv4 {x:QAj} (h:lv=0∨lv=1):(two lv a o).set lv.toNat x=two lv x o:=by
 rcases h with rfl|rfl<;>rfl
theorem Qzo (D:Disk lv la a o) (P:Phase la a o cs b j) (hj:j.Kind=1):QdW ⟨true,b,two lv a o,lv,la,j⟩=some (QzB ⟨true,b,two lv a o,lv,la,j⟩):=by
 have hf:=P.few D;have hr:0<=j.Step∧j.Step<=(j.Lines.length:Int)+2:=by
  cases P with
  |trial T k ht h1 h9 hk=>rcases hk with rfl|rfl<;>exact absurd hj (by decide)
  |back ht=>exact absurd hj (by decide)
  |idle E ht hE=>exact absurd hj (by decide)
  |start E t js ht hE hm hj t0 t9=>dsimp only;omega
  |part E t js k ht hE ha hj t0 t9 hk ho=>dsimp only;omega
  |done E t js ht hE ha hj t0 t9 ho=>dsimp only;omega
 have hob:=D.ob.few;unfold QdW QzB QhY Qsm;dsimp only;rw[QiI D.lv,Qba,Qay D.lv,Qa9 D.lv,Qo (n:=(j.Lines.length:Int)+2) (by omega) (by omega)];simp only[Qrk D.lv,Qa9 D.lv]
 by_cases h2:j.Step=(j.Lines.length:Int)+2
 ·rw[Y2 (by simpa using h2),Y1 (by omega),Y1 (by omega),Y1 (by omega)];unfold QeI;dsimp only;rw[QiI D.lv]
  by_cases ht:j.Ticks>0
  ·rw[Y2 (Yd ht),Y2 ht,Y2 ht]
   rfl
  ·rw[Y1 (by simpa using ht),Y1 ht,Y1 ht]
   rfl
 rw[Y1 (by simpa using h2)]
 by_cases G:j.Step=0
 ·rw[Y2 (by simpa using G),Y2 G,Qd (QbH D.lv),Qa,G]
  rfl
 rw[Y1 (by simpa using G),Y1 G,Qo (n:=j.Step+1) (by omega) (by omega)]
 by_cases h1:j.Step<=(j.Lines.length:Int)
 ·rw[Y2 (Yd h1),Y2 h1,Qd (QbH D.lv),QfJ (by omega),Qa,Qo (n:=j.Step-1) (by omega) (by omega),Qd (by omega),Qd (by rw[List.length_singleton];omega),Qd (QbH D.lv),Qa,Qa]
 ·rw[Y1 (by simpa using h1),Y1 h1,Y2 (by omega),Qd (QbH D.lv),Qa,Qd (QbH D.lv),Qa,Qd (QbH D.lv),Qa,Qa];simp only[Qrk D.lv,Qa9 D.lv]
theorem Qv5 (D:Disk lv la a o) (P:Phase la a o cs b j):Qcu ⟨true,b,two lv a o,lv,la,j⟩=some (Qet ⟨true,b,two lv a o,lv,la,j⟩):=by
 unfold Qcu Qet;dsimp only
 by_cases h1:j.Kind=1
 ·rw[Y2 (by simpa using h1),Y2 h1,Qzo D P h1,Qa]
 rw[Y1 (by simpa using h1),Y1 h1]
 by_cases h2:j.Kind=2
 ·rw[Y2 (by simpa using h2),Y2 h2,Qba,Qd (QfR D.lv),Qay D.lv,Qv4 D.lv];unfold QhY Qsm;dsimp only;rw[Qay D.lv,Qa9 D.lv]
 rw[Y1 (by simpa using h2),Y1 h2]
 by_cases h3:j.Kind=3
 ·rw[Y2 (by simpa using h3),Y2 h3,QiI D.lv]
 ·rw[Y1 (by simpa using h3),Y1 h3]
theorem Qyh (D:Disk lv la a o):Qdl ⟨false,b,two lv a o,lv,la,j⟩=some (Qmg ⟨false,b,two lv a o,lv,la,j⟩):=by
 have l0:=D.l0;have l1:=D.l1;unfold Qdl Qmg QhY Qsm;dsimp only;rw[Qba,Qd (QfR D.lv),QiI D.lv,Qay D.lv,Qa9 D.lv,Qo (n:=la+1) (by omega) (by omega)]
 by_cases ht:a.Trial=true
 ·rw[Y2 ht,Y2 ht,Qd (QbH D.lv)]
 ·rw[Y1 ht,Y1 ht]
  by_cases G:a.Edition=la
  ·rw[Y1 (by simpa using G),Y2 G]
  ·rw[Y2 (by simpa using G),Y1 G]
end
abbrev Qzp (xs:List Bt) (s:Bt):List Bt:=QyC (fun x y=>bsl x y) xs s
theorem Qzq {xs:List Bt} {s:Bt} (h:xs.length<=1000):JJ xs s=some (Qzp xs s):=by
 unfold JJ;rw[QwI xs (fun x=>bsl x s) (fun i hi=>?_) ?_,Qa]
 ·have hle:=Qx6 (fun x:Bt=>bsl x s) xs;have hi:=QwJ (fun x y:Bt=>bsl x y) xs s;rw[Qd (by omega),Qd (by omega),Qd (by rw[Yp,List.length_singleton];omega),Qd (by omega),Qd (by rw[QZ,Yl,Yp,List.length_singleton];omega),hi]
 ·rw[Qd (fun h=>by simp at h),Y1 (by simp)]
 ·have G:(0:Int)<=(i:Int)∧(i:Int)<((xs.length:Nat):Int):=by omega
  rw[Qd (fun _=>G),Yd G.2,Yq,Y4,Qk hi (by omega)];split<;>rfl
theorem Qph (xs:List Bt) (s:Bt):(Qzp xs s).Perm (s::xs):=by
 unfold Qzp QyC;refine List.perm_middle.trans ?_;rw[XU]
theorem Quq {xs:List Bt} {s:Bt} (I:xs.Pairwise fun x y=>bsl x y=true) (hn:s∉xs):(Qzp xs s).Pairwise fun x y=>bsl x y=true:=by
 have ht:∀x∈xs.takeWhile (fun x=>bsl x s),bsl x s=true:=fun x G=>Yb.1 (List.all_takeWhile (p:=fun x:Bt=>bsl x s) (l:=xs)) x G;have O:∀x∈xs.dropWhile (fun x=>bsl x s),bsl s x=true:=by
  clear ht
  induction xs with
  |nil=>intro x G;cases G
  |cons y r Y=>
   rw[YU] at I;rw[List.dropWhile_cons];split
   ·exact Y I.2 fun h=>hn (Yt _ h)
   ·rename_i U;have h1:bsl s y=true:=by
     cases e:bsl s y
     ·exact absurd (Quh e (by simpa using U)) fun h=>hn (by rw[h];exact List.mem_cons_self ..)
     ·rfl
    intro x G;rcases Ye.1 G with rfl|G
    ·exact h1
    ·exact QgE h1 (I.1 x G)
 refine XS.2 ⟨I.sublist (Xy _),YU.2 ⟨O,I.sublist (List.dropWhile_sublist _)⟩,fun x G y J=>?_⟩;rcases Ye.1 J with rfl|J
 ·exact ht x G
 ·exact QgE (ht x G) (O y J)
theorem Qzr {xs:List Bt} {ys:List Bs} (G:xs.Pairwise fun x y=>bsl x y=true) (hp:(xs.map tB).Perm ys):xs=(QuF ys).map tS:=by
 have h1:(xs.map tB).Pairwise fun x y=>x<=y:=X9.2 (G.imp fun {x y} h=>by rw[Qjq] at h;exact List.le_of_lt (Ym h));have h2:xs.map tB=QuF ys:=(hp.trans (Qpc ys).symm).eq_of_pairwise (fun a b _ _=>List.le_antisymm) h1 (Qly ys);rw[<-h2,Qqi]
theorem nB.up {xs:List Bt} (h:nB xs):xs.Pairwise fun x y=>bsl x y=true:=(X9.1 (Quc h)).imp fun {x y} h=>by rw[Qjq];exact Yd h
theorem nB.keys {xs:List Bt} (h:nB xs):xs.Pairwise fun x y=>kfB x≠kfB y:=(X9.1 (Qlx h)).imp fun {x y} h e=>h (QtC e)
theorem Qpi {α:Type} {xs:List α} {p:α->Bool} (hp:xs.Pairwise fun x y=>¬(p x=true∧p y=true)):(match xs.findIdx? p with|some i=>xs.eraseIdx i|none=>xs)=xs.filter fun x=>!p x:=by
 induction xs with
 |nil=>rfl
 |cons x r J=>
  rw[YU] at hp;rw[List.findIdx?_cons,Xd]
  cases I:p x
  ·have:=J hp.2;rw[Y1 (by decide)];simp only[XN,YG];rw[<-this]
   cases r.findIdx? p<;>rfl
  ·rw[Y2 rfl];simp only[Y0d,Yx,Xc,List.eraseIdx_cons_zero];exact(QiJ fun y G=>by
    have:=hp.1 y G;rw[I] at this;simpa using this).symm
theorem Qrl {xs:List Bt} {i:Nat} (h:i<xs.length) (hl:xs.length<=1000):Zx xs (i:Int)=some (xs.eraseIdx i):=by
 have e:IntKind.i64.wrap ((i:Int)+1)=((i+1:Nat):Int):=Qk h (by omega);have G:Qfg ((xs.length:Nat):Int) ((i+1:Nat):Int)=xs.length-(i+1):=by rw[QZ];omega
 unfold Zx;rw[e,G,Y4,Y4,Qd (by omega),Qd (by omega),Qd (by omega),Qd (by rw[Yp];omega),show i+1+(xs.length-(i+1))=xs.length by omega,X1,List.eraseIdx_eq_take_drop_succ]
theorem QwL {s:Bt} (h:s.size<=1000000):JU s=some (match QhP (tB s) with|some x=>(tS x,true)|none=>(tS [],false)):=by
 have:=QtU (l:=tB s) (by rw[Qiy];exact h);rwa[Qgx] at this
section
variable {lv la:Int} {a o:QAj} {cs:List QAg} {b:QAh} {j:QAi}
theorem Qyi (ls:List Bt) (x:Bs):(ls.filter fun l=>!(kfB l==tS (Qc8 x)))=(eR (ls.map tB) x).map tS:=by
 unfold eR;rw[List.filter_map,Xq];have:((fun y=>!(Qc8 y==Qc8 x))∘tB)=fun l=>!(kfB l==tS (Qc8 x)):=funext fun l=>by
  show(!(Qc8 (tB l)==Qc8 x))=!(kfB l==tS (Qc8 x));unfold kfB;rw[Jk]
 rw[this];exact((YO fun s _=>Qgx s).trans (List.map_id _)).symm
theorem Qzs (C:CandsB b.Edition cs) (a4:b.Cands=cs) {k:Nat} (hk:k<cs.length) {e:QAl} (hl:e.Line.size<=1000000) (a2:atU cs e.User=some k):Qcv ⟨true,b,two lv a o,lv,la,j⟩ (k:Int) e.Line=some (QyE ⟨true,b,two lv a o,lv,la,j⟩ e):=by
 have h3:=C.few;have hc:=C.each _ (Zd hk);have hn:=hc.lines;have a1:=hn.len;unfold Qcv QyE QjZ;dsimp only;rw[a4,a2,QwL hl,Qa];dsimp only;simp only[Y4];generalize cs.getD k default=c at hc hn a1|-;have hg:(0:Int)<=(k:Int)∧(k:Int)<((cs.length:Nat):Int):=by omega
 cases hv:QhP (tB e.Line) with
 |none=>exact Y2 (by rfl)
 |some x=>
  have hx:=Qks (Qpe hv);dsimp only;have U:kfB (tS x)=tS (Qc8 x):=by unfold kfB;rw[QfY]
  rw[Y1 (by decide),Qd hg,Qyc (by rw[QaQ];omega),Qa,U,Qrj hn,Qa];have hp:c.Lines.Pairwise fun y z=>¬((kfB y==tS (Qc8 x))=true∧(kfB z==tS (Qc8 x))=true):=hn.keys.imp fun {y z} h ⟨h1,h2⟩=>h ((Nc.bq.1 h1).trans (Nc.bq.1 h2).symm);have hR:=Qpi hp;rw[Qyi] at hR;have G:∀ys:List Bt,ys=(eR (c.Lines.map tB) x).map tS->(if((((ys.length:Nat):Int))==16)=true then some ((⟨true,b,two lv a o,lv,la,j⟩:QAk),(4:Int)) else bd (JJ ys (tS x)) fun x9=>gd ((0:Int)<=(k:Int)∧(k:Int)<((cs.length:Nat):Int))<|some (({(⟨true,b,two lv a o,lv,la,j⟩:QAk) with Box:={b with Cands:=cs.set k {c with Lines:=x9}}}:QAk),0))=some (if(eR (c.Lines.map tB) x).length=16 then((⟨true,b,two lv a o,lv,la,j⟩:QAk),(4:Int)) else(QyD ⟨true,b,two lv a o,lv,la,j⟩ (cs.set k {c with Lines:=(QuF (eR (c.Lines.map tB) x++[x])).map tS}),0)):=fun ys J=>by
   have I:ys.length=(eR (c.Lines.map tB) x).length:=by rw[J,Ya]
   have a5:(eR (c.Lines.map tB) x).length<=(c.Lines.map tB).length:=XA _ _;rw[Ya] at a5
   by_cases O:(eR (c.Lines.map tB) x).length=16
   ·rw[Y2 (by rw[I,O];rfl),Y2 O]
   ·rw[Y1 (by rw[I];simp;omega),Y1 O,Qzq (by omega),Qa,Qd hg];have a3:nB ys:=by
     refine hn.sub ?_;rw[J,<-Qyi];exact List.filter_sublist
    have Y:tS x∉ys:=fun h=>by
     rw[J,<-Qyi] at h;have:=(YK.1 h).2;rw[U,QiF] at this
     cases this
    have:Qzp ys (tS x)=(QuF (eR (c.Lines.map tB) x++[x])).map tS:=Qzr (Quq a3.up Y) (by
     refine((Qph ys (tS x)).map tB).trans ?_;rw[YA,QfY,J,Qzk];exact(List.perm_append_singleton _ _).symm)
    rw[this]
    rfl
  cases hf:c.Lines.findIdx? (fun l=>kfB l==tS (Qc8 x)) with
  |none=>
   rw[hf] at hR;show bd (if decide ((-1:Int)>=0)=true then _ else _) _=_;rw[Y1 (by decide),Qa];exact G _ hR
  |some i=>
   rw[hf] at hR;have hi:=(List.findIdx?_eq_some_iff_getElem.1 hf).1;show bd (if decide ((i:Int)>=0)=true then bd (Zx c.Lines (i:Int)) _ else _) _=_;rw[Y2 (by simp),Qrl hi (by omega),Qa,Qa];exact G _ hR
theorem Qyj (C:CandsB b.Edition cs) (J:b.Cands=cs) {k:Nat} (hk:k<cs.length) {e:QAl} (hl:e.Line.size<=1000000) (I:atU cs e.User=some k):QbL ⟨true,b,two lv a o,lv,la,j⟩ (k:Int) e.Line=some (Qsn ⟨true,b,two lv a o,lv,la,j⟩ e):=by
 have h3:=C.few;have hc:=C.each _ (Zd hk);have hlen:=hc.lines.len;unfold QbL Qsn QjZ;dsimp only;rw[J,I,QwL hl,Qa];dsimp only;simp only[Y4];have O:(0:Int)<=(k:Int)∧(k:Int)<((cs.length:Nat):Int):=by omega
 cases hv:QhP (tB e.Line) with
 |none=>exact Y2 (by rfl)
 |some x=>
  dsimp only;rw[Y1 (by decide),Qd O,J5 (cs.getD k default).Lines.length (fun i=>(cs.getD k default).Lines.getD i default==tS x) (fun i=>.inl (cs.set k {(cs.getD k default) with Lines:=(cs.getD k default).Lines.eraseIdx i})) (.inr ()) (fun i hi=>?_) ?_,Qa,<-Qh0 (p:=fun s:Bt=>s==tS x)]
  ·cases (cs.getD k default).Lines.findIdx? fun s=>s==tS x<;>rfl
  ·rw[Y1 (by simp)]
  ·have G:(0:Int)<=(i:Int)∧(i:Int)<(((cs.getD k default).Lines.length:Nat):Int):=by omega
   rw[Y2 (Yd G.2),Qd G,Y4,Qrl hi (by omega),Qa,Qd O,Qk hi (by omega)];split<;>rfl
end
theorem QlC {I xs:List Bt} (h:nB xs) (hn:I.Nodup) (hl:I.length<=100):Post (Qa6 I xs) fun K=>K.Nodup∧K.length<=I.length+xs.length:=by
 have hx:=h.len;unfold Qa6;refine .gd (by omega) (.bd (Q:=fun x=>x.2.Nodup∧x.2.length<=I.length+xs.length) (.lp (fun s=>∃i:Nat,s.2=(i:Int)∧i<=xs.length∧s.1.Nodup∧s.1.length<=I.length+i) (fun s=>xs.length-s.2.toNat) ⟨0,rfl,Yr _,hn,by simp⟩ ?_) fun x hx=>.ret hx);rintro⟨K,z⟩ ⟨i,e,hi,J,O⟩;dsimp only at e J O|-;subst e;refine .ite (fun hc=>?_) fun _=>.ret ⟨J,by dsimp only;omega⟩;have G:i<xs.length:=by have:=Ym hc;omega
 have hg:(0:Int)<=(i:Int)∧(i:Int)<((xs.length:Nat):Int):=by omega
 have U:(xs.getD i default).size<=1000000:=by have:=h.short (Zd G);omega
 rw[Qd hg,Y4,Qyc U,Qa,Qq4 (by omega),Qa,Qk G (by omega)];refine .ite (fun hb=>?_) fun _=>.ret ⟨⟨i+1,rfl,G,J,by dsimp only;omega⟩,by dsimp only;omega⟩;rw[Qd hg,Qa,Qd (by rw[List.length_singleton];omega)];refine .ret ⟨⟨i+1,rfl,G,?_,by rw[Yl,List.length_singleton];omega⟩,by dsimp only;omega⟩;refine List.nodup_append.2 ⟨J,by simp,fun a ha b Y e=>?_⟩;rw[YJ.1 Y] at e;have:(K.any fun x=>x==kfB (xs.getD i default))=true:=YH.2 ⟨a,ha,by rw[e];exact QiF _⟩;rw[this] at hb
 cases hb
theorem Qzt {ls:List Bt} {k v:Bt} (h:nB ls) (e:Ja ls k=some v):v=(⟨#[]⟩:Bt)∨(QaE (tB v)=true∧kfB v=k):=by
 rw[Qn8 h] at e
 cases G:ls.findIdx? fun l=>kfB l==k with
 |none=>rw[G] at e;exact .inl (Yz e).symm
 |some i=>
  rw[G] at e;obtain rfl:=Yz e;have⟨h1,h2,_⟩:=List.findIdx?_eq_some_iff_getElem.1 G;refine .inr ⟨h.kept (Zd h1),?_⟩;have:ls.getD i default=ls[i]:=by simp[Y0,h1]
  show kfB (ls.getD i default)=k;rw[this];exact Nc.bq.1 h2
theorem Qm5 {f l t:List Bt} (hf:nB f) (hl:nB l) (ht:nB t):Post (Qae f l t) fun r=>r.2=2∨r.2=3∨nB r.1:=by
 have n1:=hf.len;have n2:=hl.len;have n3:=ht.len;unfold Qae;rw[Qhh hf,Qa,Qe (by rfl),Qhh hl,Qa,Qe (by rfl),Qhh ht,Qa,Y1 (by decide)];refine .bd (QlC hf .nil (by simp)) fun K1 ⟨d1,l1⟩=>?_;rw[Yv] at l1;refine .bd (QlC hl d1 (by omega)) fun K2 ⟨d2,l2⟩=>?_;refine .bd (QlC ht d2 (by omega)) fun K ⟨dK,lK⟩=>?_;refine .bd (Q:=fun r=>match r with| .inl _=>True| .inr x=>x.1=x.2.length∧x.2.Pairwise (fun x y=>bsl x y=true)∧(x.2.Pairwise fun x y=>kfB x≠kfB y)∧∀y∈x.2,QaE (tB y)=true) (.lp (fun s=>∃i:Nat,s.2=(i:Int)∧i<=K.length∧s.1.length<=i∧s.1.Pairwise (fun x y=>bsl x y=true)∧(s.1.Pairwise fun x y=>kfB x≠kfB y)∧∀y∈s.1,QaE (tB y)=true∧kfB y∈K.take i) (fun s=>K.length-s.2.toNat) ⟨0,rfl,Yr _,Yf _,.nil,.nil,fun y I=>by cases I⟩ ?_) ?_
 ·rintro⟨out,z⟩ ⟨i,e,hi,ho,U,J,hk⟩;dsimp only at e ho U J hk|-;subst e;refine .ite (fun hc=>?_) fun _=>.ret ⟨rfl,U,J,fun y I=>(hk y I).1⟩;have G:i<K.length:=by have:=Ym hc;omega
  have hg:(0:Int)<=(i:Int)∧(i:Int)<((K.length:Nat):Int):=by omega
  have Y:∀ {y:Bt},y∈K.take i->y∈K.take (i+1):=fun h=>(List.take_subset_take_left (l:=K) (Nat.le_succ i)) h;rw[Qd hg,Y4];refine .bd (Q:=fun v=>Ja f (K.getD i default)=some v) ⟨_,Qn8 hf,Qn8 hf⟩ fun v1 e1=>?_;rw[Qd hg];refine .bd (Q:=fun v=>Ja l (K.getD i default)=some v) ⟨_,Qn8 hl,Qn8 hl⟩ fun v2 e2=>?_;rw[Qd hg];refine .bd (Q:=fun v=>Ja t (K.getD i default)=some v) ⟨_,Qn8 ht,Qn8 ht⟩ fun v3 e3=>?_;refine .bd (Q:=fun r=>r.1=(⟨#[]⟩:Bt)∨(QaE (tB r.1)=true∧kfB r.1=K.getD i default)) ?_ fun r O=>?_
  ·unfold Qfi;exact .ite (fun _=>.ret (Qzt ht e3)) fun _=>.ite (fun _=>.ret (Qzt hl e2)) fun _=>.ret (.inl rfl)
  ·refine .ite (fun _=>.ret trivial) fun _=>.ite (fun a4=>?_) fun _=>.ret ⟨⟨i+1,Qk G (by omega),G,by dsimp only;omega,U,J,fun y I=>⟨(hk y I).1,Y (hk y I).2⟩⟩,by dsimp only;rw[Qk G (by omega)];omega⟩;have O:QaE (tB r.1)=true∧kfB r.1=K.getD i default:=by
    rcases O with O|O
    ·rw[O] at a4;exact absurd a4 (by decide)
    ·exact O
   rw[Qzq (by omega),Qa,Qk G (by omega)];have a1:K.getD i default=K[i]:=by simp[Y0,G]
   have a3:∀y∈out,kfB y≠kfB r.1:=fun y I e=>by
    have h1:=(hk y I).2;rw[e,O.2,a1] at h1;have⟨j,hj,ej⟩:=List.mem_take_iff_getElem.1 h1;have:=Xa.1 dK j i (by omega) G (by omega);exact this ej
   have hp:=Qph out r.1;refine .ret ⟨⟨i+1,rfl,G,by have:=hp.length_eq;rw[Yi] at this;dsimp only;omega,Quq U fun h=>a3 _ h rfl,?_,fun y I=>?_⟩,by dsimp only;omega⟩
   ·exact hp.symm.pairwise (YU.2 ⟨fun y I e=>a3 y I e.symm,J⟩) fun h e=>h e.symm
   ·rcases Ye.1 (hp.mem_iff.1 I) with rfl|I
    ·refine⟨O.1,?_⟩;rw[O.2,a1];exact List.mem_take_iff_getElem.2 ⟨i,by omega,rfl⟩
    ·exact⟨(hk y I).1,Y (hk y I).2⟩
 ·rintro(_|⟨n,ys⟩) hx
  ·exact .ret (.inl rfl)
  ·have⟨h1,h2,h3,h4⟩:=hx;dsimp only at h1 h2 h3 h4|-;refine .ite (fun _=>.ret (.inr (.inl rfl))) fun hn=>.ret (.inr (.inr ?_));have a2:ys.length<=16:=by
    have:¬((n:Int)>16):=fun e=>hn (Yd e);omega
   refine Qqg (by rw[Ya];exact a2) (fun l hl=>?_) (X9.2 (h3.imp fun {x y} h e=>h (congrArg tS e))) (X9.2 (h2.imp fun {x y} h=>by rw[Qjq] at h;exact Ym h));obtain⟨s,hs,rfl⟩:=YR.1 hl;exact h4 s hs
noncomputable def Qv6:Mrg:=fun f l t=>(Qae f l t).getD ([],1)
noncomputable def QwM:May:=fun x y u=>(Qa7 x y u).getD false
theorem QlD {α:Type} {m:Option α} {d:α} {Q:α->Prop} (h:Post m Q):m=some (m.getD d)∧Q (m.getD d):=by
 have⟨x,e,G⟩:=h;rw[e];exact⟨rfl,G⟩
theorem Qyk:MrgOk Qv6:=⟨fun _ _ _ G hl ht=>(QlD (Qm5 G hl ht)).2⟩
theorem Qyl {f l t:List Bt} (G:nB f) (hl:nB l) (ht:nB t):Qae f l t=some (Qv6 f l t):=(QlD (Qm5 G hl ht)).1
theorem Qur {x y:List Bt} (hx:nB x) (Y:nB y):Post (Qcw x y) fun r=>r.length<=32∧∀s∈r,s.size<=1000:=by
 have n1:=hx.len;have n2:=Y.len;unfold Qcw;rw[Qhh hx,Qa,Qe (by rfl),Qhh Y,Qa,Y1 (by decide)];have two:(⟨#[45,32]⟩:Bt).size=2∧(⟨#[43,32]⟩:Bt).size=2:=⟨rfl,rfl⟩;refine .bd (Q:=fun r=>r.2.length<=32∧∀s∈r.2,s.size<=1000) (.lp (fun s=>∃i k:Nat,s.2.1=(i:Int)∧s.2.2=(k:Int)∧i<=x.length∧k<=y.length∧s.1.length<=i+k∧∀z∈s.1,z.size<=1000) (fun s=>(x.length-s.2.1.toNat)+(y.length-s.2.2.toNat)) ⟨0,0,rfl,rfl,Yr _,Yr _,Yf _,fun z hz=>by cases hz⟩ ?_) fun r hr=>.ret hr;rintro⟨out,z1,z2⟩ ⟨i,k,e1,e2,hi,hk,ho,hs⟩;dsimp only at e1 e2 ho hs|-;subst e1 e2;refine .ite (fun hc=>?_) fun _=>.ret ⟨by dsimp only;omega,hs⟩;have hc:i<x.length∨k<y.length:=by simpa using hc
 have app:∀s:Bt,s.size<=1000->∀w∈out++[s],w.size<=1000:=fun s h w J=>by
  rcases Yo.1 J with J|J
  ·exact hs w J
  ·rw[YJ.1 J];exact h
 refine .gd (fun h _=>⟨by omega,Ym h⟩) (.gd (fun _ h=>by simp at h;omega) (.ite (fun hb=>?_) fun hb=>?_))
 ·have I:i<x.length:=by
   by_cases h:k=y.length
   ·omega
   ·simp[h] at hb;omega
  have:=hx.short (Zd I);rw[Y4,Qk I (by omega)];exact .gd (by omega) (.gd (by omega) (.gd (by rw[List.length_singleton];omega) (.ret ⟨⟨i+1,k,rfl,rfl,I,hk,by rw[Yl,List.length_singleton];omega,app _ (by rw[Y03];omega)⟩,by dsimp only;omega⟩)))
 ·have G:k<y.length:=by
   by_cases h:k=y.length
   ·simp[h] at hb
   ·omega
  have:=Y.short (Zd G);refine .gd (fun _=>by omega) (.gd (fun h=>by simp at h;omega) (.ite (fun O=>?_) fun O=>?_))
  ·rw[Y4,Y4,Qk G (by omega)];exact .gd (by omega) (.gd (by omega) (.gd (by rw[List.length_singleton];omega) (.ret ⟨⟨i,k+1,rfl,rfl,hi,G,by rw[Yl,List.length_singleton];omega,app _ (by rw[Y03];omega)⟩,by dsimp only;omega⟩)))
  ·have U:i<x.length:=by
    by_cases h:i=x.length
    ·simp[h] at O
    ·omega
   rw[Qk G (by omega),Qk U (by omega)];exact .ret ⟨⟨i+1,k+1,rfl,rfl,U,G,by dsimp only;omega,hs⟩,by dsimp only;omega⟩
theorem Qpj {s:Bt} {n:Int} (h:s.size<=1000000) (hn:0<=n):Post (QbM s n) fun r=>r.size<=1000:=by
 have G:=Qkp (l:=tB s) (by rw[Qiy];omega);rw[Qgx] at G;unfold QbM;rw[G,Qa]
 cases hc:Qe9 (tB s) with
 |none=>
  dsimp only;exact .ite (fun h=>by simp at h;omega) fun _=>.ret (by decide)
 |some ws=>
  dsimp only;refine .ite (fun h=>?_) fun _=>.ret (by decide);have h:=Ym h;refine .gd ⟨hn,h⟩ (.ret ?_);rw[Ya] at h;rw[ZN (by omega),QaQ];have:=(QcT hc).short _ (QaY (xs:=ws) (i:=n.toNat) (by omega));omega
theorem Qus {x y:List Bt} (I:nB x) (O:nB y) {u:Bt} (U:u.size<=1000000):Post (Qa7 x y u) fun _=>True:=by
 unfold Qa7;rw[Qhh I,Qa,Qe (by rfl),Qhh O,Qa,Qe (by rfl),QwK U,Qa];refine .ite (fun _=>.ret trivial) fun _=>.gd (by have:(⟨#[117,115,101,114,32]⟩:Bt).size=5:=rfl;omega) (.bd (Q:=fun v=>v.size<=1000) ⟨_,Qn8 I,?_⟩ fun v hv=>.ite (fun _=>.ret trivial) fun _=>.bd (Qpj (by omega) (by omega)) fun w hw=>.bd (Qur I O) fun d ⟨hd,J⟩=>?_)
 ·cases Y:x.findIdx? fun l=>kfB l==(⟨#[117,115,101,114,32]⟩:Bt)++u with
  |none=>show(⟨#[]⟩:Bt).size<=1000;decide
  |some i=>
   have h1:=(List.findIdx?_eq_some_iff_getElem.1 Y).1;have:=I.short (Zd h1);dsimp only;omega
 ·refine .bd (Q:=fun _=>True) (.lp (fun s=>∃i:Nat,s=(i:Int)) (fun s=>d.length-s.toNat) ⟨0,rfl⟩ ?_) ?_
  ·rintro _ ⟨i,rfl⟩;refine .ite (fun hc=>?_) fun _=>.ret trivial;have hi:i<d.length:=by have:=Ym hc;omega
   have G:Post (QdJ w 44) fun r=>r.length<=2000:=by
    refine⟨(QcS 44 (tB w)).map tS,?_,?_⟩
    ·have:=Qq3 (l:=tB w) 44 (by rw[Qiy];omega);rw[Qgx] at this;exact this
    ·have:=QgS 44 (tB w);rw[Qiy] at this;show((QcS 44 (tB w)).map tS).length<=2000;rw[Ya];omega
   refine .bd (Q:=fun r=>r.length<=2000) (.gcall (fun _=>G) fun _=>Yr _) fun c hcl=>.gd (fun _=>by omega) (.bd (Q:=fun _=>True) (.gcall (fun _=>(Qpj (by have:=J _ (Zd hi);rw[Y4];omega) (by omega)).mono fun _ _=>trivial) fun _=>trivial) fun w2 _=>.bd (Q:=fun _=>True) (.gcall (fun _=>by rw[Qq4 (by omega)];exact .ret trivial) fun _=>trivial) fun _ _=>.ite (fun _=>.ret trivial) fun _=>.ret ?_);rw[Qk hi (by omega)];exact⟨⟨i+1,rfl⟩,by rw[Y4,Y4];omega⟩
  ·rintro(_|_) _<;>exact .ret trivial
theorem Qym {x y:List Bt} (I:nB x) (J:nB y) {u:Bt} (G:u.size<=1000000):Qa7 x y u=some (QwM x y u):=(QlD (Qus I J G)).1
section
variable {lv la:Int} {a o:QAj} {cs:List QAg} {b:QAh} {j:QAi}
theorem Qut (D:Disk lv la a o) (C:CandsB b.Edition cs) (P:Phase la a o cs b j) {k:Nat} (hk:k<cs.length) {u:Bt} (G:atU cs u=some k):QaT ⟨true,b,two lv a o,lv,la,j⟩ (k:Int)=some (Qjo Qv6 ⟨true,b,two lv a o,lv,la,j⟩ u):=by
 have hc:=C.each _ (Zd hk);have J:=(P.force D).neat
 have I:(0:Int)<=(k:Int)∧(k:Int)<((cs.length:Nat):Int):=by omega
 unfold QaT Qjo QjZ;dsimp only;rw[P.cands,G,Qd I];dsimp only;simp only[Y4];rw[Qyl hc.rows hc.lines J,Qa]
 by_cases h2:(Qv6 (cs.getD k default).From (cs.getD k default).Lines b.Lines).2=2
 ·rw[Y2 (by simpa using h2),Y2 h2]
 rw[Y1 (by simpa using h2),Y1 h2]
 by_cases h3:(Qv6 (cs.getD k default).From (cs.getD k default).Lines b.Lines).2=3
 ·rw[Y2 (by simpa using h3),Y2 h3]
 ·rw[Y1 (by simpa using h3),Y1 h3,Qd I,Qa]
  rfl
theorem Quu (D:Disk lv la a o) (C:CandsB b.Edition cs) (P:Phase la a o cs b j) {k:Nat} (hk:k<cs.length) {u:Bt} (hu:u.size<=1000000) (t:Int) (G:atU cs u=some k):QaU ⟨true,b,two lv a o,lv,la,j⟩ (k:Int) t=some (Qjp QwM ⟨true,b,two lv a o,lv,la,j⟩ u t):=by
 have hc:=C.each _ (Zd hk);have h3:=C.few;have hF:=(P.force D).neat
 have hE:=P.ed D;have Y:(0:Int)<=(k:Int)∧(k:Int)<((cs.length:Nat):Int):=by omega
 have hj:decide (j.Kind>0)=decide (j.Kind≠0):=by cases P with
  |trial T k ht h1 h9 hk=>rcases hk with rfl|rfl<;>rfl
  |_=>rfl
 have⟨_,O,_⟩:=Qjr G
 have J:Zt (cs.getD k default).Lines=some (QcU ((cs.getD k default).Lines.map tB)):=by
  have:=QnZ (ls:=(cs.getD k default).Lines.map tB) hc.lines.short' (by rw[Ya];have:=hc.lines.len;omega);rwa[Qqi] at this
 unfold QaU QbG Qjp QjZ;dsimp only;rw[P.cands,G,Qd Y,hj];dsimp only;simp only[Y4];have U:QO t 0 9=some (decide (0<=t)&&decide (t<=9)):=rfl;rw[U,Qa,J,O,Qym hF hc.lines hu]
 by_cases h1:0<=t∧t<=9
 rotate_left
 ·rw[Y2 (show(!(decide (0<=t)&&decide (t<=9)))=true by simp;omega),Y2 h1,Qa]
  rfl
 rw[Y1 (show ¬((!(decide (0<=t)&&decide (t<=9)))=true) by simp;omega),Y1 (show ¬ ¬(0<=t∧t<=9) from fun h=>h h1)]
 by_cases h2:j.Kind=0
 rotate_left
 ·rw[Y2 (show decide (j.Kind≠0)=true by simpa using h2),Y2 (show j.Kind≠0 from h2),Qa]
  rfl
 rw[Y1 (show ¬(decide (j.Kind≠0)=true) by simpa using h2),Y1 (show ¬(j.Kind≠0) from fun h=>h h2)]
 by_cases h4:b.Trial>0
 ·rw[Y2 (show decide (b.Trial>0)=true from Yd h4),Y2 h4,Qa]
  rfl
 rw[Y1 (show ¬(decide (b.Trial>0)=true) by simpa using h4),Y1 h4]
 by_cases h5:(cs.getD k default).Base=b.Edition
 rotate_left
 ·rw[Y2 (show((cs.getD k default).Base !=b.Edition)=true by simpa using h5),Y2 (show(cs.getD k default).Base≠b.Edition from h5),Qa]
  rfl
 rw[Y1 (show ¬(((cs.getD k default).Base !=b.Edition)=true) by simpa using h5),Y1 (show ¬((cs.getD k default).Base≠b.Edition) from fun h=>h h5),Qa]
 by_cases h6:QcU ((cs.getD k default).Lines.map tB)=0
 rotate_left
 ·rw[Y2 (show(QcU ((cs.getD k default).Lines.map tB) !=0)=true by simpa using h6),Y2 (show QcU ((cs.getD k default).Lines.map tB)≠0 from h6),Qa]
  rfl
 rw[Y1 (show ¬((QcU ((cs.getD k default).Lines.map tB) !=0)=true) by simpa using h6),Y1 (show ¬(QcU ((cs.getD k default).Lines.map tB)≠0) from fun h=>h h6),Qa]
 cases hm:QwM b.Lines (cs.getD k default).Lines u
 ·rw[Y2 (show(!false)=true from rfl),Y2 rfl,Qa]
  rfl
 rw[Y1 (show ¬((!true)=true) by decide),Y1 (show ¬(true=false) by decide)]
 by_cases I:b.Edition>=1000000
 ·rw[Y2 (show decide (b.Edition>=1000000)=true from Yd I),Y2 I,Qa]
  rfl
 rw[Y1 (show ¬(decide (b.Edition>=1000000)=true) by simpa using I),Y1 I,Qa];have e:IntKind.i64.wrap ((k:Int)+1)=((k+1:Nat):Int):=Qk hk (by omega);have hd:Qfg ((cs.length:Nat):Int) ((k+1:Nat):Int)=cs.length-(k+1):=by rw[QZ];omega
 rw[Y1 (show ¬(((0:Int) !=0)=true) by decide),Qd Y,e,hd,Y4,Qd (by omega),Qd (by omega),Qd (by omega),Qd (by rw[Yp];omega),show k+1+(cs.length-(k+1))=cs.length by omega,X1,<-List.eraseIdx_eq_take_drop_succ,Qo (n:=b.Edition+1) (by omega) (by omega)]
theorem Qzu (D:Disk lv la a o) (C:CandsB b.Edition cs) (P:Phase la a o cs b j) {e:QAl} (J:e.User.size<=1000000) (hl:e.Line.size<=1000000) (hk:2<=e.Kind∧e.Kind<=5):QdX ⟨true,b,two lv a o,lv,la,j⟩ e=some (if e.Kind=2 then QyE ⟨true,b,two lv a o,lv,la,j⟩ e else if e.Kind=3 then Qsn ⟨true,b,two lv a o,lv,la,j⟩ e else if e.Kind=4 then Qjo Qv6 ⟨true,b,two lv a o,lv,la,j⟩ e.User else Qjp QwM ⟨true,b,two lv a o,lv,la,j⟩ e.User e.N):=by
 have h3:=C.few;have hc:=P.cands;unfold QdX;dsimp only;rw[Qup (by rw[hc];omega),Qa,hc]
 cases G:atU cs e.User with
 |none=>
  have I:∀f,QjZ ⟨true,b,two lv a o,lv,la,j⟩ e.User f=(⟨true,b,two lv a o,lv,la,j⟩,3):=fun f=>by
   unfold QjZ;dsimp only;rw[hc,G]
  unfold QyE Qsn Qjo Qjp;rw[I,I,I,I];show(if decide ((-1:Int)<0)=true then _ else _)=_;rw[Y2 (by decide)];simp only[ite_self]
 |some k=>
  have⟨h1,h2,_⟩:=Qjr G
  show(if decide ((k:Int)<0)=true then _ else _)=_;rw[Y1 (by simp)];show(if(e.Kind==2)=true then bd (Qcv _ (k:Int) _) _ else if(e.Kind==3)=true then bd (QbL _ (k:Int) _) _ else if(e.Kind==4)=true then bd (QaT _ (k:Int)) _ else bd (QaU _ (k:Int) _) _)=_;rw[Qzs C hc h1 hl G,Qyj C hc h1 hl G,Qut D C P h1 G,Quu D C P h1 J e.N G];simp only[Qa,X7];split
  ·rfl
  ·split
   ·rfl
   ·split<;>rfl
end
structure EvS (e:QAl):Prop where
 user:e.User.size≤1000000
 line:e.Line.size≤1000000
theorem Qz2 {s:QAk} (h:Ok s) {e:QAl} (O:EvS e):JK s e=some (doV Qv6 QwM s e):=by
 have a1:QO e.Kind 1 10=some (decide (1<=e.Kind)&&decide (e.Kind<=10)):=rfl;unfold JK doV;rw[a1,Qa]
 by_cases hk:1<=e.Kind∧e.Kind<=10
 rotate_left
 ·rw[Y2 (show(!(decide (1<=e.Kind)&&decide (e.Kind<=10)))=true by simp;omega),Y2 hk]
 rw[Y1 (show ¬((!(decide (1<=e.Kind)&&decide (e.Kind<=10)))=true) by simp;omega),Y1 (show ¬ ¬(1<=e.Kind∧e.Kind<=10) from fun h=>h hk)]
 by_cases I:s.Up=(e.Kind==10)
 ·rw[Y2 (show(s.Up==(e.Kind==10))=true by rw[I];simp),Y2 I]
 rw[Y1 (show ¬((s.Up==(e.Kind==10))=true) by simpa using I),Y1 I]
 cases h with
 |down lv la a o D=>
  have G:e.Kind=10:=by
   cases G:(e.Kind==10)
   ·exact absurd (G▸rfl) I
   ·simpa using G
  rw[G,Qyh D]
  rfl
 |up lv la a o cs b j D C P=>
  have G:e.Kind≠10:=fun e1=>I (by rw[e1];rfl);simp only[X7]
  by_cases J:e.Kind=1
  ·rw[Y2 J,Y2 J,Qv3 D C P O.user]
   rfl
  rw[Y1 J,Y1 J]
  by_cases k6:e.Kind=6
  ·rw[Y2 k6,k6,Qsq D P O.user]
   rfl
  rw[Y1 k6]
  by_cases k7:e.Kind=7
  ·rw[Y2 k7,k7,Qyg D P]
   rfl
  rw[Y1 k7]
  by_cases k8:e.Kind=8
  ·rw[Y2 k8,k8,Qv5 D P]
   rfl
  rw[Y1 k8]
  by_cases k9:e.Kind=9
  ·rw[Y2 k9,k9]
   rfl
  rw[Y1 k9,Y1 G,Qzu D C P O.user O.line (by omega),Qa]
  by_cases Y:e.Kind=2
  ·rw[Y2 Y,Y2 Y]
  rw[Y1 Y,Y1 Y]
  by_cases k3:e.Kind=3
  ·rw[Y2 k3,Y2 k3]
  rw[Y1 k3,Y1 k3]
  by_cases U:e.Kind=4
  ·rw[Y2 U,Y2 U]
  rw[Y1 U,Y1 U,Y2 (show e.Kind=5 by omega)]
theorem Quv {s:QAk} (h:Ok s) {e:QAl} (I:EvS e):QdY s e=some (doV Qv6 QwM s e)∧Ok (doV Qv6 QwM s e).1:=by
 have G:=Qzm (may:=QwM) (e:=e) Qyk h;refine⟨?_,G⟩;unfold QdY;rw[Qz1 h,Qa,Y1 (by decide),Qql h.few,Qa,Qz2 h I,Qa,Qql G.few,Qa]
theorem Qsr {b:List Int} (hb:b.length<=1048576) (h:∀x∈b,QnE x):Post (Qc9 b) fun r=>Rq r.b r.p 0:=by
 unfold Qc9;refine .ite (fun hc=>.gd (by have:=Ym hc;omega) (.ret ?_)) fun hc=>.ret ?_
 ·exact⟨fun x G=>h x (Xg G),by dsimp only;rw[Yp];omega,Xe _,Xe _⟩
 ·have:¬(((b.length:Nat):Int)>2000):=fun e=>hc (Yd e);exact⟨h,by dsimp only;omega,Xe _,Xe _⟩
theorem cB.sm {xs:List Bt} (h:cB xs):Sm xs 16:=⟨h.neat.len,fun s hs=>by have:=h.neat.short hs;omega⟩
theorem Qrm {xs:List Bt} {s:Bt} (h:cB xs) (hs:s.size<=1000):Post (QaI xs s) cB:=by
 have hm:=h.sm;unfold QaI;refine .bd (Qri (by omega)) fun k _=>.bd (Qsj hm (by omega)) fun i hi=>.bd (Q:=fun r=>Sm r 16) (.ite (fun hc=>.bd (Qpd hm (by omega) (Ym hc) hi) fun r I=>.ret I) fun _=>.ret hm) fun r I=>.bd (QvR I (by omega) hs) fun q J=>?_;have G:=QnZ (ls:=q.map tB) (fun l hl=>by
  obtain⟨s,hs,rfl⟩:=YR.1 hl;have:=J.short s hs;rw[Qiy];omega) (by rw[Ya];have:=J.few;omega)
 rw[Qqi] at G;rw[G,Qa];refine .ite (fun O=>.ret ?_) fun _=>.ret h;have:QcU (q.map tB)=0:=by simpa using O
 exact this
theorem Qss {b:List Int} {p k:Int} (h:Rq b p k) (hk:k<=1000):Post (Qdi ⟨b,p⟩) fun x=>cB x.1∧Rq b x.2.p (k+600):=by
 unfold Qdi;have s0:cB [(⟨#[117,115,101,114,32,97,110,110,32,97,108,108]⟩:Bt)]:=by
  show QcU [[117,115,101,114,32,97,110,110,32,97,108,108]]=0
  kernel_rfl
 refine .bd (Q:=fun x=>cB x.2∧Rq b x.1 (k+1)) (.bd (pk5 h (by omega) (by omega)) ?_) ?_
 ·rintro x ⟨_,G⟩;refine .ite (fun _=>.bd (Qrm s0 (by rw[Que,XQ];simp only[Yi,Yv];omega)) fun ls hs=>.ret ⟨hs,G⟩) fun _=>.ret ⟨s0,G⟩
 ·rintro⟨p1,l1⟩ ⟨s1,h1⟩;dsimp only at s1 h1|-;refine .bd (Q:=fun x=>cB x.2∧Rq b x.1 (k+3)) (.bd (pk5 h1 (by omega) (by omega)) ?_) ?_
  ·rintro x ⟨_,G⟩;refine .ite (fun _=>.bd (of5 G (by omega) (by kernel_rfl)) ?_) fun _=>.ret ⟨s1,G.mono (by omega)⟩;rintro y ⟨hy,hr⟩;refine .gd (by simp only[Que,XQ,Yi,Yv];omega) (.bd (Qrm s1 (by simp only[Y03,Que,XQ,Yi,Yv];omega)) fun ls hs=>.ret ⟨hs,hr.mono (by omega)⟩)
  ·rintro⟨p2,l2⟩ ⟨s2,h2⟩;dsimp only at s2 h2|-;refine .bd (Q:=fun x=>cB x.2∧Rq b x.1 (k+4)) (.bd (pk5 h2 (by omega) (by omega)) ?_) ?_
   ·rintro x ⟨_,G⟩;refine .ite (fun _=>.bd (Qrm s2 (by rw[Que,XQ];simp only[Yi,Yv];omega)) fun ls hs=>.ret ⟨hs,G.mono (by omega)⟩) fun _=>.ret ⟨s2,G.mono (by omega)⟩
   ·rintro⟨p3,l3⟩ ⟨s3,h3⟩;dsimp only at s3 h3|-;refine .bd (pk5 h3 (by omega) (by omega)) ?_;rintro⟨n,r4⟩ ⟨⟨O,a2⟩,U⟩;dsimp only at O a2 U|-;refine .bd (Q:=fun x=>(0<=x.2∧x.2<=40)∧Rq b x.1 (k+6)) (.bd (pk5 U (by omega) (by omega)) ?_) ?_
    ·rintro x ⟨_,G⟩;refine .ite (fun _=>.ret ⟨⟨by dsimp only;omega,by dsimp only;omega⟩,G.mono (by omega)⟩) fun _=>.ret ⟨⟨O,by dsimp only;omega⟩,G.mono (by omega)⟩
    ·rintro⟨p5,m⟩ ⟨⟨a1,Y⟩,h5⟩;dsimp only at a1 Y h5|-;refine .bd (Q:=fun x=>cB x.1∧Rq b x.2 (k+600)) (.lp (fun s=>∃i:Nat,s.2.2=(i:Int)∧i<=40∧cB s.2.1∧Rq b s.1 (k+6+12*((40:Int) -i))) (fun s=>s.2.2.toNat) ⟨m.toNat,by dsimp only;omega,by omega,s3,h5.mono (by omega)⟩ ?_) ?_
     ·rintro⟨p6,ls6,z⟩ ⟨i,e,hi,I,J⟩;dsimp only at e I J|-;subst e;refine .ite (fun hc=>?_) fun _=>.ret ⟨I,J.mono (by omega)⟩;have hc:=Ym hc;have ew:IntKind.i64.wrap ((i:Int) -1)=((i-1:Nat):Int):=(Qo (by omega) (by omega)).trans (by omega);refine .bd (QiD J (by omega)) ?_;rintro x ⟨G,a4⟩;refine .bd (Qrm I (by omega)) fun ls7 a3=>.ret ⟨⟨i-1,ew,by omega,a3,a4.mono (by omega)⟩,?_⟩;dsimp only;rw[ew];omega
     ·rintro x ⟨h6,h7⟩;exact .ret ⟨h6,h7⟩
theorem Qjs {b:List Int} {p k:Int} (h:Rq b p k) (hk:k<=900000):Post (Qa3 ⟨b,p⟩) fun x=>x.1.size<=60∧Rq b x.2.p (k+1):=by
 unfold Qa3;exact .bd (of5 h (by omega) (by kernel_rfl)) fun x G=>.ret G
structure DrS (s:QAk):Prop where
 few:s.Box.Cands.length≤3
 each:∀c∈s.Box.Cands,c.User.size≤1000∧c.Lines.length≤16∧∀l∈c.Lines,l.size≤200
theorem Ok.dr {s:QAk} (h:Ok s):DrS s:=by
 cases h with
 |down lv la a o D=>exact⟨Yr _,fun c hc=>by cases hc⟩
 |up lv la a o cs b j D C P=>
  refine⟨by dsimp only;rw[P.cands];exact C.few,fun c hc=>?_⟩;dsimp only at hc;rw[P.cands] at hc;have h1:=C.each c hc;refine⟨?_,h1.lines.len,fun l hl=>h1.lines.short hl⟩;have:=h1.name;unfold Qc6 at this;simp[inI] at this;omega
theorem ev0 {k n:Int}:EvS ⟨k,ByteArray.empty,ByteArray.empty,n⟩:=⟨Yr _,Yr _⟩
theorem Qst {s:QAk} (hs:DrS s) {b:List Int} {p k:Int} (h:Rq b p k) (hk:k<=800000):Post (Qcq ⟨b,p⟩ s) fun x=>EvS x.1∧Rq b x.2.p (k+30):=by
 have h3:=hs.few;unfold Qcq;have a1:∀ {q k':Int},Rq b q k'->k'<=900000->0<s.Box.Cands.length->Post (bd (Ql ⟨b,q⟩ ((s.Box.Cands.length:Nat):Int)) fun x6=>gd ((0:Int)<=x6.1∧x6.1<((s.Box.Cands.length:Nat):Int))<|some (x6.2.p,(s.Box.Cands.getD x6.1.toNat default).User)) fun x=>x.2.size<=1000∧Rq b x.1 (k'+1):=fun hq hk I=>.bd (pk5 hq (by omega) (by omega)) fun x6 ⟨g6,h6⟩=>.gd g6 (.ret ⟨(hs.each _ (Zd (by omega))).1,h6⟩);refine .bd (Qjs h (by omega)) fun x1 ⟨hu1,h1⟩=>.bd (Q:=fun x=>x.2.size<=1000∧Rq b x.1 (k+3)) (.ite (fun h0=>.bd (pk5 h1 (by omega) (by omega)) fun x5 ⟨_,h5⟩=>.ite (fun hc=>(a1 h5 (by omega) (by have:=Ym h0;omega)).mono fun x hx=>⟨hx.1,hx.2.mono (by omega)⟩) fun _=>.ret ⟨by dsimp only;omega,h5.mono (by omega)⟩) fun h0=>.ite (fun hc=>absurd (by simp at hc|-;omega) h0) fun _=>.ret ⟨by dsimp only;omega,h1.mono (by omega)⟩) fun x2 ⟨hu2,h2⟩=>?_;refine .bd (pk5 h2 (by omega) (by omega)) fun x8 ⟨g8,G⟩=>?_;refine .bd (Q:=fun _=>True) (.ite (fun _=>.ret trivial) fun _=>.ite (fun _=>.ret trivial) fun _=>.ret trivial) fun x9 _=>?_;refine .ite (fun _=>.ret ⟨⟨by dsimp only;omega,Yr _⟩,G.mono (by omega)⟩) fun _=>?_;refine .bd (Q:=fun _=>True) (.ite (fun _=>.ret trivial) fun _=>.ite (fun _=>.ret trivial) fun _=>.ret trivial) fun x12 _=>?_;refine .ite (fun _=>.bd (QiD G (by omega)) fun x15 ⟨hl,a4⟩=>.ret ⟨⟨by dsimp only;omega,by dsimp only;omega⟩,a4.mono (by omega)⟩) fun _=>?_;refine .ite (fun _=>.bd (QiD G (by omega)) fun x16 ⟨hl,J⟩=>.bd ⟨_,Qup (by omega),rfl⟩ fun x17 a9=>?_) fun _=>?_
 ·subst a9;have a6:∀i,atU s.Box.Cands x2.2=some i->i<s.Box.Cands.length:=fun i hi=>(Qjr hi).1
  cases hA:atU s.Box.Cands x2.2 with
  |none=>
   refine .gd (fun e=>absurd e (by decide)) (.ite (fun e=>?_) fun _=>.ret ⟨⟨by dsimp only;omega,by dsimp only;omega⟩,J.mono (by omega)⟩);exact absurd e (by simp[atI])
  |some i=>
   have hi:=a6 i hA;have hg:(0:Int)<=(i:Int)∧(i:Int)<((s.Box.Cands.length:Nat):Int):=by omega
   have⟨e1,e2,e3⟩:=hs.each _ (Zd hi);show Post (gd (decide ((i:Int)>=0)=true->_) _) _;refine .gd (fun _=>hg) (.ite (fun hc=>?_) fun _=>.ret ⟨⟨by dsimp only;omega,by dsimp only;omega⟩,J.mono (by omega)⟩);simp only[Y3,Yk] at hc;have I:=hc.2;show Post (gd ((0:Int)<=(i:Int)∧(i:Int)<_) _) _;refine .gd hg (.gd hg (.bd (pk5 J (by omega) (by simp only[atI,Y4] at I|-;omega)) fun a7 ⟨Y,a8⟩=>.gd Y (.ret ⟨⟨by dsimp only;omega,?_⟩,a8.mono (by omega)⟩)));have:=e3 _ (Zd (xs:=(s.Box.Cands.getD i default).Lines) (i:=a7.1.toNat) (by
    have:=Y.2;simp only[atI,Y4] at this;omega))
   dsimp only;simp only[atI,Y4];omega
 refine .bd (Q:=fun _=>True) (.ite (fun _=>.ret trivial) fun _=>.ret trivial) fun x23 _=>?_;refine .ite (fun _=>.ret ⟨⟨by dsimp only;omega,Yr _⟩,G.mono (by omega)⟩) fun _=>?_;refine .bd (Q:=fun _=>True) (.ite (fun _=>.ret trivial) fun _=>.ite (fun _=>.ret trivial) fun _=>.ite (fun _=>.ret trivial) fun _=>.ret trivial) fun x26 _=>?_;refine .ite (fun _=>.bd (pk5 G (by omega) (by omega)) fun x29 ⟨U,a2⟩=>.gd ⟨U.1,U.2⟩ (.ret ⟨⟨by dsimp only;omega,Yr _⟩,a2.mono (by omega)⟩)) fun _=>?_;refine .ite (fun _=>.bd (pk5 G (by omega) (by omega)) fun x31 ⟨_,a5⟩=>.bd (pk5 a5 (by omega) (by omega)) fun x32 ⟨_,a3⟩=>.ret ⟨⟨by dsimp only;omega,Yr _⟩,a3.mono (by omega)⟩) fun _=>?_;refine .bd (Q:=fun _=>True) (.ite (fun _=>.ret trivial) fun _=>.ret trivial) fun x33 _=>?_;refine .ite (fun _=>.ret ⟨ev0,G.mono (by omega)⟩) fun _=>?_;refine .ite (fun _=>.bd (pk5 G (by omega) (by omega)) fun x36 ⟨_,O⟩=>.ite (fun _=>.ret ⟨ev0,O.mono (by omega)⟩) fun _=>.ret ⟨ev0,O.mono (by omega)⟩) fun _=>?_;exact .ite (fun _=>.ret ⟨ev0,G.mono (by omega)⟩) fun _=>.ret ⟨ev0,G.mono (by omega)⟩
structure EvL (l:List QAl):Prop where
 few:l.length≤100
 each:∀e∈l,EvS e
theorem Quw {s:QAk} (hs:DrS s) {b:List Int} {p k:Int} (h:Rq b p k) (hk:k<=700000):Post (Qdj ⟨b,p⟩ s) fun x=>EvL x.1∧Rq b x.2.p (k+60):=by
 unfold Qdj;have one:∀(l:List QAl) (n:Nat),l.length<=n->(∀e∈l,EvS e)->(l++[(⟨8,ByteArray.empty,ByteArray.empty,0⟩:QAl)]).length<=n+1∧∀e∈l++[(⟨8,ByteArray.empty,ByteArray.empty,0⟩:QAl)],EvS e:=fun l n hl G=>⟨by rw[Yl,List.length_singleton];omega,fun e hm=>by
  rcases Yo.1 hm with hm|hm
  ·exact G e hm
  ·rw[YJ.1 hm];exact ev0⟩
 refine .bd (Qst hs h (by omega)) fun x1 ⟨e1,h1⟩=>.bd (pk5 h1 (by omega) (by omega)) fun x2 ⟨_,h2⟩=>.ite (fun _=>.bd (Q:=fun x=>EvL x.2) (.lp (fun t=>∃i:Nat,t.2=(i:Int)∧i<=19∧t.1.length<=i+1∧∀e∈t.1,EvS e) (fun t=>19-t.2.toNat) ⟨0,rfl,by omega,by simp,fun e G=>by rw[YJ.1 G];exact e1⟩ ?_) fun x O=>.ret ⟨O,h2.mono (by omega)⟩) fun _=>.ite (fun _=>?_) fun _=>.ite (fun _=>.bd (Qjs h2 (by omega)) fun x20 ⟨hu,J⟩=>.gd (by simp only[Yi,Yv];omega) (.ret ⟨⟨by simp,fun e G=>?_⟩,J.mono (by omega)⟩)) fun _=>.ret ⟨⟨by simp,fun e G=>by rw[YJ.1 G];exact e1⟩,h2.mono (by omega)⟩
 ·rintro⟨l,z⟩ ⟨i,e,hi,hl,G⟩;dsimp only at e hl G|-;subst e;refine .ite (fun hc=>?_) fun _=>.ret ⟨by dsimp only;omega,G⟩;have hc:=Ym hc;have⟨o1,o2⟩:=one l (i+1) hl G;rw[Qk (n:=19) (by omega) (by omega)];exact .gd (by rw[List.length_singleton];omega) (.ret ⟨⟨i+1,rfl,by omega,o1,o2⟩,by dsimp only;omega⟩)
 ·refine .bd (Qjs h2 (by omega)) fun x9 ⟨hu,h9⟩=>.bd (QiD h9 (by omega)) fun x10 ⟨hl,a1⟩=>.bd (pk5 a1 (by omega) (by omega)) fun x11 ⟨_,U⟩=>.bd (pk5 U (by omega) (by omega)) fun x12 ⟨_,I⟩=>.bd (pk5 I (by omega) (by omega)) fun a2 ⟨g13,Y⟩=>.bd (Q:=fun x=>EvL x.2) (.lp (fun t=>∃i:Nat,t.2=(i:Int)∧i<=20∧t.1.length<=30-i∧∀e∈t.1,EvS e) (fun t=>t.2.toNat) ⟨a2.1.toNat,by dsimp only;omega,by omega,by simp only[Yi,Yv];omega,fun e G=>?_⟩ ?_) fun x O=>.ret ⟨O,Y.mono (by omega)⟩
  ·simp only[Ye,List.not_mem_nil,or_false] at G;rcases G with rfl|rfl|rfl
   ·exact⟨by dsimp only;omega,Yr _⟩
   ·exact⟨by dsimp only;omega,by dsimp only;omega⟩
   ·exact⟨by dsimp only;omega,Yr _⟩
  ·rintro⟨l,z⟩ ⟨i,e,hi,hl,G⟩;dsimp only at e hl G|-;subst e;refine .ite (fun hc=>?_) fun _=>.ret ⟨by dsimp only;omega,G⟩;have hc:=Ym hc;have⟨o1,o2⟩:=one l (30-i) hl G;have ew:IntKind.i64.wrap ((i:Int) -1)=((i-1:Nat):Int):=(Qo (by omega) (by omega)).trans (by omega);rw[ew];exact .gd (by rw[List.length_singleton];omega) (.ret ⟨⟨i-1,rfl,by omega,by dsimp only;omega,o2⟩,by dsimp only;omega⟩)
 ·simp only[Yo,Ye,List.not_mem_nil,or_false] at G;rcases G with rfl|rfl|rfl
  ·exact e1
  ·exact ev0
  ·exact⟨by dsimp only;omega,Yr _⟩
theorem Qux {s:QAk} (hs:Ok s) {l:List QAl} (hl:EvL l):Post (Qbc s l) fun x=>Ok x.1∧x.2=l:=by
 have hf:=hl.few;unfold Qbc;refine .bd (Q:=fun t=>Ok ⟨t.1,⟨t.2.1,t.2.2.1,t.2.2.2.1,t.2.2.2.2.1,t.2.2.2.2.2.1⟩,t.2.2.2.2.2.2.1,t.2.2.2.2.2.2.2.1,t.2.2.2.2.2.2.2.2.1,⟨t.2.2.2.2.2.2.2.2.2.1,t.2.2.2.2.2.2.2.2.2.2.1,t.2.2.2.2.2.2.2.2.2.2.2.1,t.2.2.2.2.2.2.2.2.2.2.2.2.1,t.2.2.2.2.2.2.2.2.2.2.2.2.2⟩⟩) (.lp (fun t=>∃(q:QAk) (i:Nat),i<=l.length∧Ok q∧t=(q.Up,q.Box.Edition,q.Job.Step,q.Job.Edition,q.Job.Ticks,q.Job.Lines,q.Box.Lines,q.Box.Trial,q.Box.Back,q.Box.Cands,q.Slots,q.Live,q.Last,q.Job.Kind,(i:Int))) (fun t=>l.length-t.2.2.2.2.2.2.2.2.2.2.2.2.2.2.toNat) ⟨s,0,Yr _,hs,rfl⟩ ?_) fun x I=>.ret ⟨I,rfl⟩;rintro _ ⟨q,i,hi,J,rfl⟩;dsimp only;refine .ite (fun hc=>?_) fun _=>.ret J;have G:i<l.length:=by have:=Ym hc;omega
 refine .gd (by omega) ?_;have⟨e1,O⟩:=Quv J (hl.each _ (Zd G));refine .bd ⟨_,by rw[Y4];exact e1,O⟩ fun x I=>.ret ⟨⟨x.1,i+1,G,I,by rw[Qk G (by omega)]⟩,by dsimp only;rw[Qk G (by omega)];omega⟩
theorem Qyn {ls:List Bt} (h:cB ls):Qcp ls=some (⟨true,⟨0,ls,0,[],[]⟩,[⟨true,0,false,ls⟩,⟨false,0,false,[]⟩],0,0,⟨0,0,0,0,[]⟩⟩,true):=by
 have hn:=h.neat.len;unfold Qcp;rw[QlB h,Qa,Y1 (by decide),Qql,Qa];refine⟨⟨by dsimp only;omega,Yr _,Yr _,fun c hc=>by cases hc⟩,Yr _,by simp,fun c hc=>?_⟩;simp only[Ye,List.not_mem_nil,or_false] at hc;rcases hc with rfl|rfl
 ·dsimp only;omega
 ·exact Yr _
theorem Qyo {ls:List Bt} (h:cB ls) {n:Int} (G:0<=n) (h1:n<=1000000):Ok ⟨true,⟨n,ls,0,[],[]⟩,[⟨true,n,false,ls⟩,⟨false,0,false,[]⟩],0,n,⟨0,0,0,0,[]⟩⟩:=
 .up 0 n ⟨true,n,false,ls⟩ ⟨false,0,false,[]⟩ [] _ _ ⟨.inl rfl,G,h1,rfl,⟨fun _=>⟨G,Xe _,h⟩,fun e=>(by cases e)⟩,⟨fun e=>(by cases e),fun _=>⟨rfl,rfl,(show Qcj []=0 by decide)⟩⟩,fun e=>(by cases e)⟩ .nil (.idle n rfl (.inl ⟨rfl,rfl⟩))
theorem Qpk {b:List Int} {p k:Int} (h:Rq b p k) (hk:k<=1000):Post (Qbx ⟨b,p⟩) fun x=>Ok x.1∧Rq b x.2.p (k+2000):=by
 unfold Qbx;refine .bd (Qss h hk) fun x1 ⟨hc,h1⟩=>?_;rw[Qyn hc,Qa];dsimp only;refine .bd (Q:=fun x=>(∃n:Int,0<=n∧n<=1000000∧x.1=[⟨true,n,false,x1.1⟩,⟨false,0,false,[]⟩]∧x.2.1=n∧x.2.2.1=n)∧Rq b x.2.2.2 (k+700)) (.bd (pk5 h1 (by omega) (by omega)) fun x6 ⟨_,h6⟩=>.ite (fun _=>.bd (pk5 h6 (by omega) (by omega)) fun x7 ⟨g7,h7⟩=>?_) fun _=>.ret ⟨⟨0,Xe _,by omega,rfl,rfl,rfl⟩,h6.mono (by omega)⟩) ?_
 ·have O:IntKind.i64.wrap (1000000-x7.1)=1000000-x7.1:=Qo (by omega) (by omega);rw[O,Qd ⟨Xe _,by simp⟩,Qa];exact .ret ⟨⟨1000000-x7.1,by omega,by omega,rfl,rfl,rfl⟩,h7.mono (by omega)⟩
 ·rintro⟨sl,ed,la,p3⟩ ⟨⟨n,n0,n1,e1,e2,e3⟩,h3⟩;dsimp only at e1 e2 e3 h3|-;subst e1 e2 e3;refine .bd (pk5 h3 (by omega) (by omega)) fun G ⟨g10,a3⟩=>?_;refine .bd (Q:=fun t=>Ok ⟨t.1,⟨t.2.1,t.2.2.1,t.2.2.2.1,t.2.2.2.2.1,t.2.2.2.2.2.1⟩,t.2.2.2.2.2.2.1,t.2.2.2.2.2.2.2.1,t.2.2.2.2.2.2.2.2.1,⟨t.2.2.2.2.2.2.2.2.2.1,t.2.2.2.2.2.2.2.2.2.2.1,t.2.2.2.2.2.2.2.2.2.2.2.1,t.2.2.2.2.2.2.2.2.2.2.2.2.1,t.2.2.2.2.2.2.2.2.2.2.2.2.2.1⟩⟩∧Rq b t.2.2.2.2.2.2.2.2.2.2.2.2.2.2 (k+2000)) (.lp (fun t=>∃(q:QAk) (pp:Int) (i:Nat),i<=12∧Ok q∧Rq b pp (k+800+60*((12:Int) -i))∧t=(q.Up,q.Box.Edition,q.Job.Step,q.Job.Edition,q.Job.Ticks,q.Job.Lines,q.Box.Lines,q.Box.Trial,q.Box.Back,q.Box.Cands,q.Slots,q.Live,q.Last,q.Job.Kind,pp,(i:Int))) (fun t=>t.2.2.2.2.2.2.2.2.2.2.2.2.2.2.2.toNat) ⟨_,G.2.p,G.1.toNat,by omega,Qyo hc n0 n1,a3.mono (by omega),by rw[show((G.1.toNat:Nat):Int)=G.1 by omega]⟩ ?_) fun x hx=>.ret hx;rintro _ ⟨q,pp,i,hi,Y,J,rfl⟩;dsimp only;refine .ite (fun I=>?_) fun _=>.ret ⟨Y,J.mono (by omega)⟩;have I:=Ym I;have O:IntKind.i64.wrap ((i:Int) -1)=((i-1:Nat):Int):=(Qo (by omega) (by omega)).trans (by omega);refine .bd (Quw Y.dr J (by omega)) fun a1 ⟨hl,a2⟩=>.bd (Qux Y hl) fun a4 ⟨U,hx⟩=>.gd (by rw[hx]) (.ret ⟨⟨a4.1,a1.2.p,i-1,by omega,U,a2.mono (by omega),by rw[O]⟩,by dsimp only;rw[O];omega⟩)
theorem Qj0 {a:List Int} (ha:a.length<=1048576) (h:∀x∈a,QnE x):Post (J1 a) Ok:=by
 unfold J1;exact .bd (Qsr ha h) fun r G=>.bd (Qpk G (by omega)) fun x I=>.ret I.1
abbrev evK (k:Int):QAl:=⟨k,ByteArray.empty,ByteArray.empty,0⟩
section
variable {mrg:Mrg} {may:May} {s:QAk}
end
def F0 (a o:QAj):List Bt:=if a.Trial=true then o.Lines else a.Lines
def E0 (la:Int) (a:QAj):Int:=if a.Trial=true∨a.Edition≠la then la+1 else la
@[reducible] def dnS (lv la:Int) (a o:QAj):QAk:=⟨false,⟨0,[],0,[],[]⟩,two lv a o,lv,la,jK 0⟩
@[reducible] def upS (lv la:Int) (a o:QAj):QAk:=⟨true,⟨E0 la a,F0 a o,0,[],[]⟩,two lv a o,lv,la,if a.Trial=true then jK 3 else jK 0⟩
section
variable {lv la:Int} {a o:QAj} {cs:List QAg} {b:QAh} {j:QAi}
theorem Qqm (D:Disk lv la a o):Qmg (dnS lv la a o)=upS lv la a o:=by
 unfold Qmg QhY Qsm upS E0 F0;dsimp only;rw[Qay D.lv,Qa9 D.lv]
 by_cases h:a.Trial=true
 ·rw[Y2 h,Y2 (.inl h),Y2 h,Y2 h]
 ·rw[Y1 h,Y1 h,Y1 h]
  by_cases G:a.Edition=la
  ·rw[Y2 G,Y1 (fun e=>e.elim h fun e=>e G)]
  ·rw[Y1 G,Y2 (.inr G)]
theorem Disk.dn (D:Disk lv la a o):Ok (dnS lv la a o):=.down lv la a o D
theorem Disk.up (D:Disk lv la a o):Ok (upS lv la a o):=by rw[<-Qqm D];exact Qqj D
theorem Quy (D:Disk lv la a o):∃G I J,(Qet (upS lv la a o)).1=upS G la I J∧Disk G la I J∧F0 I J=F0 a o∧E0 la I=E0 la a:=by
 by_cases h:a.Trial=true
 ·have⟨t1,t2,U,t4⟩:=D.tr h;have O:¬o.Trial=true:=by rw[U];decide
  refine⟨1-lv,o,a,?_,D.turn h,?_,?_⟩
  ·unfold Qet upS;dsimp only;rw[Y2 h,Y1 (by decide),Y1 (by decide),Y2 (by rfl),Y1 O,Qn4 D.lv];unfold E0 F0;rw[Y2 (.inl h),Y2 h,Y2 (.inr (by omega)),Y1 O]
  ·unfold F0;rw[Y1 O,Y2 h]
  ·unfold E0;rw[Y2 (Or.inr (show o.Edition≠la by omega)),Y2 (Or.inl h)]
 ·refine⟨lv,a,o,?_,D,rfl,rfl⟩;unfold Qet upS;dsimp only;rw[Y1 h,Y1 (by decide),Y1 (by decide),Y1 (by decide)]
theorem Phase.falls (D:Disk lv la a o) (P:Phase la a o cs b j):(if b.Trial>0 then b.Back else b.Lines)=F0 a o∧b.Edition<=E0 la a:=by
 have ea:=D.a0.2.1;unfold F0 E0
 cases P with
 |trial T k ht h1 h9 hk=>dsimp only;rw[Y2 (by omega),Y2 ht,Y2 (.inl ht)];exact⟨rfl,by omega⟩
 |back ht=>dsimp only;rw[Y1 (by omega),Y2 ht,Y2 (.inl ht)];exact⟨rfl,by omega⟩
 |idle E ht hE=>
  dsimp only;rw[Y1 (by omega),Y1 (by rw[ht];decide)];refine⟨rfl,?_⟩;unfold QhX at hE;rw[ht];split<;>omega
 |start E t js ht hE hm hj t0 t9=>
  dsimp only;rw[Y1 (by omega),Y1 (by rw[ht];decide)];refine⟨rfl,?_⟩;unfold QhX at hE;rw[ht];split<;>omega
 |part E t js k ht hE ha hj t0 t9 hk ho=>
  dsimp only;rw[Y1 (by omega),Y1 (by rw[ht];decide)];refine⟨rfl,?_⟩;split<;>omega
 |done E t js ht hE ha hj t0 t9 ho=>
  dsimp only;rw[Y1 (by omega),Y1 (by rw[ht];decide)];refine⟨rfl,?_⟩;split<;>omega
end
theorem Quz {xs:List Bt} (h:nB xs):JB xs=some true:=by
 have:=Qt9 (ls:=xs.map tB) h.short' (by rw[Ya];have:=h.len;omega);rw[Qqi,show Qcj (xs.map tB)=0 from h] at this;unfold JB;rw[this,Qa]
 rfl
theorem Qyp {xs:List Bt} (h:nB xs):Jb xs=some (QcU (xs.map tB)):=by
 have:=QvN (ls:=xs.map tB) h.short' (by rw[Ya];have:=h.len;omega);rwa[Qqi] at this
theorem Qoa {xs:List Bt} (h:cB xs):Jb xs=some 0:=by
 rw[Qyp h.neat,show QcU (xs.map tB)=0 from h]
theorem Qrn {xs:List Bt} (h:xs.length<=1000):QI xs xs=some true:=by
 unfold QI;rw[Y1 (by simp),Qsi xs.length (.inr ()) (fun i hi=>?_) ?_,Qa]
 ·rw[Y1 (by simp)]
 ·have G:(0:Int)<=(i:Int)∧(i:Int)<((xs.length:Nat):Int):=by omega
  rw[Y2 (Yd G.2),Qd G,Qd G,Y1 (by simp),Qk hi (by omega)]
theorem Qb6 {x lo hi:Int} (G:lo<=x) (h1:x<=hi):Qv x lo hi=some true:=by
 show some (decide (_<=_)&&decide (_<=_))=_;rw[Yd G,Yd h1];rfl
section
variable {lv la:Int} {a o:QAj} {cs:List QAg} {b:QAh} {j:QAi}
theorem Qro {up:Bool} (D:Disk lv la a o):Jx ⟨up,b,two lv a o,lv,la,j⟩=some true:=by
 unfold Jx;dsimp only;have U:((((2:Nat):Int)) !=2)=false:=rfl;have e1:Qv lv 0 1=some true:=by rcases D.lv with rfl|rfl<;>rfl
 rw[Qba,U,Qe rfl,e1,Qa,Qe (by rfl),Qb6 D.l0 D.l1,Qa,Y1 (by decide),Qsi 2 (.inr ()) (fun i hi=>?_) ?_,Qa]
 ·dsimp only;rw[Qd (QfR D.lv),QiI D.lv,Qd (QbH D.lv),Qay D.lv,Qa9 D.lv,D.aw,Y1 (by decide)]
  cases ht:a.Trial
  ·rfl
  ·have⟨O,Y,I,J⟩:=D.tr ht;rw[Y,I,O,Yd J];simp
 ·rw[Y1 (by decide)]
 ·have G:(0:Int)<=(i:Int)∧(i:Int)<((2:Nat):Int):=by omega
  have hm:SlotB la ((two lv a o).getD i default):=by
   have:=Qqk (lv:=lv) (Zd (xs:=two lv a o) (i:=i) (by rw[Qba];exact hi));rcases this with e|e<;>rw[e]
   ·exact D.ab
   ·exact D.ob
  rw[Y2 (Yd G.2),Qd G,Y4,Qk hi (by omega)];generalize (two lv a o).getD i default=s at hm|-
  cases e:s.Whole
  ·have⟨h1,h2,h3⟩:=hm.part e;rw[QL (by decide),Qa,QL (by simp),Qa,Y1 (by simp),h1,h2,Qe ⟨by decide,by decide⟩,Quz h3,Qa,Y1 (by decide)]
  ·have⟨h1,h2,h3⟩:=hm.whole e;rw[Qe rfl,Qb6 h1 h2,Qa,Qe ⟨rfl,rfl⟩,Qoa h3,Qa,Y1 (by decide),QL (by simp),Qa,Y1 (by simp)]
theorem Qv7 {up:Bool} (D:Disk lv la a o) {E:Int} (h:QhX E la a.Edition):Jg ⟨up,b,two lv a o,lv,la,j⟩ E=some true:=by
 have l0:=D.l0;have l1:=D.l1;unfold Jg Qbm;dsimp only;rw[Qba,Qd (QfR D.lv),Qay D.lv,Qo (by omega) (by omega)];unfold QhX at h;rcases h with ⟨h1,h2⟩|⟨h1,h2⟩
 ·rw[Qe ⟨by simpa using h1,by simp;omega⟩,Qa,h1,h2];simp
 ·rw[QL (fun⟨e,_⟩=>by simp at e;omega),Qa,h1];simp
theorem Qv8 {b:QAh} (h:CandsB b.Edition b.Cands):Jf b=some true:=by
 unfold Jf;have hf:=h.few;rw[Qsi b.Cands.length (.inr ()) (fun i hi=>?_) ?_,Qa]
 ·dsimp only;rw[Yd (by omega)]
 ·rw[Y1 (by simp)]
 ·have hc:=h.each _ (Zd hi);have J:(0:Int)<=(i:Int)∧(i:Int)<((b.Cands.length:Nat):Int):=by omega
  have I:0<i->IntKind.i64.wrap ((i:Int) -1)=((i-1:Nat):Int):=fun G=>by rw[Qo (by omega) (by omega)];omega
  have U:(decide ((i:Int)>0)&&(!(bsl ((b.Cands.getD ((IntKind.i64.wrap ((i:Int) -1)).toNat) default).User) ((b.Cands.getD i default).User))))=false:=by
   cases G:decide ((i:Int)>0)
   ·rfl
   ·have hp:0<i:=by have:=Ym G;omega
    rw[I hp,Y4,Qul h.rise hp hi];rfl
  have O:Qby ((b.Cands.getD i default).User)=some true:=by
   have:=QtL (w:=tB (b.Cands.getD i default).User) (QlA hc.name);rwa[Qgx,hc.name] at this
  rw[Y2 (Yd J.2),Qd J,Y4,O,Qa,Qd (fun G _=>by have:0<i:=(by have:=Ym G;omega);rw[I this];omega),U,Qe (by rfl),Qb6 hc.b0 hc.b1,Qa,Qe (by rfl),Quz hc.rows,Qa,Qe (by rfl),Quz hc.lines,Qa,Y1 (by decide),Qk hi (by omega)]
theorem Qzv (D:Disk lv la a o) (P:Phase la a o cs b j):J2 ⟨true,b,two lv a o,lv,la,j⟩=some true:=by
 have l0:=D.l0;have l1:=D.l1;have hA:=D.ab.few;have hO:=D.ob.few;have G:=P.ed D;have J:=Qrn (xs:=a.Lines) (by omega);have O:=Qrn (xs:=o.Lines) (by omega);have U:=@Qv7 lv la a o b j true D;unfold J2;dsimp only;rw[Qba,Qd (QfR D.lv),QiI D.lv,Qd (QbH D.lv),Qay D.lv,Qa9 D.lv]
 cases P with
 |trial T k ht h1 h9 hk=>
  dsimp only;rw[Y2 (by simp;omega),ht,Qb6 h1 h9,Qa,Qe (by rfl),J,Qa,Qe (by rfl),O,Qa];rcases hk with rfl|rfl
  ·rw[Qe (by simp),show Qt (jK 0) 0=some true from rfl,Qa,QL (by simp),Qa];simp
  ·rw[Qe (by simp),show Qt (jK 2) 0=some false from rfl,Qa,Qe (by simp),show Qt (jK 2) 2=some true from rfl,Qa];simp
 |back ht=>
  dsimp only;rw[Y1 (by simp),Y1 (by simp),Y2 ht,O,Qa,Qo (by omega) (by omega),Qe (by simp),show Qt (jK 3) 3=some true from rfl,Qa];simp
 |idle E ht hE=>
  dsimp only;rw[Y1 (by simp),Y1 (by simp),Y1 (by rw[ht];decide),J,Qa,Qe rfl,show Qt (jK 0) 0=some true from rfl,Qa,Qe ⟨rfl,rfl⟩,U hE,Qa,QL (by simp),Qa]
  rfl
 |start E t js ht I hm hj t0 t9=>
  dsimp only at G|-;have hn:Qt (⟨1,0,E+1,t,js⟩:QAi) 0=some false:=rfl;have hc:QU ⟨true,⟨E,a.Lines,0,[],cs⟩,two lv a o,lv,la,⟨1,0,E+1,t,js⟩⟩=some true:=by
   have hl:=hj.neat.len;unfold QU;dsimp only;rw[Qe (by rfl),Qoa hj,Qa,Qe (by rfl),Qb6 t0 t9,Qa,Qo (n:=E+1) (by omega) (by omega),Qe (by simp;omega),Qo (n:=(js.length:Int)+2) (by omega) (by omega),Qb6 (by omega) (by omega),Qa,Y1 (by simp;omega),Y2 (by rfl),U I,Qa]
  rw[Y1 (by simp),Y1 (by simp),Y1 (by rw[ht];decide),J,Qa,Qe rfl,hn,Qa,QL (by simp),Qa,Qe (by simp),hc,Qa];simp
 |part E t js k ht I ha hj t0 t9 hk ho=>
  dsimp only at G|-;have hn:Qt (⟨1,(k:Int)+1,E+1,t,js⟩:QAi) 0=some false:=rfl;have hc:QU ⟨true,⟨E,a.Lines,0,[],cs⟩,two lv a o,lv,la,⟨1,(k:Int)+1,E+1,t,js⟩⟩=some true:=by
   have hl:=hj.neat.len;unfold QU;dsimp only;rw[Qe (by rfl),Qoa hj,Qa,Qe (by rfl),Qb6 t0 t9,Qa,Qo (n:=E+1) (by omega) (by omega),Qe (by simp;omega),Qo (n:=(js.length:Int)+2) (by omega) (by omega),Qb6 (by omega) (by omega),Qa,Y1 (by simp;omega),Y1 (by simp;omega),Qba,QiI D.lv,Qd (QbH D.lv),Y1 (by simp;omega),Y1 (by simp;omega),Qa9 D.lv,Qo (n:=(k:Int)+1-1) (by omega) (by omega),show((k:Int)+1-1).toNat=k by omega,ho];dsimp only;rw[Qd (fun _=>by omega),Qe (by rfl),Qrn (by rw[Yp];omega),Qa]
   rfl
  rw[Y1 (by simp),Y1 (by simp),Y1 (by rw[ht];decide),J,Qa,Qe rfl,hn,Qa,QL (by simp),Qa,Qe (by simp),hc,Qa];simp
 |done E t js ht I ha hj t0 t9 ho=>
  dsimp only at G|-;have hn:Qt (⟨1,(js.length:Int)+2,E+1,t,js⟩:QAi) 0=some false:=rfl;have hc:QU ⟨true,⟨E,a.Lines,0,[],cs⟩,two lv a o,lv,la,⟨1,(js.length:Int)+2,E+1,t,js⟩⟩=some true:=by
   have hl:=hj.neat.len;unfold QU;dsimp only;rw[Qe (by rfl),Qoa hj,Qa,Qe (by rfl),Qb6 t0 t9,Qa,Qo (n:=E+1) (by omega) (by omega),Qe (by simp;omega),Qo (n:=(js.length:Int)+2) (by omega) (by omega),Qb6 (by omega) (by omega),Qa,Y1 (by simp;omega),Y1 (by simp;omega),Qba,QiI D.lv,Qd (QbH D.lv),Y1 (by simp;omega),Y2 (by simp),Qa9 D.lv,ho];dsimp only;rw[Qe (by simp),Qrn (by omega),Qa];simp
  rw[Y1 (by simp),Y1 (by simp),Y1 (by rw[ht];decide),J,Qa,Qe rfl,hn,Qa,QL (by simp),Qa,Qe (by simp),hc,Qa];simp
end
theorem QuA {s:QAk} (h:Ok s):QR s=some true:=by
 unfold QR
 cases h with
 |down lv la a o D=>
  rw[Qro D,Qa,Y1 (by decide),Y2 (by rfl),Qe (by rfl),show Qt (jK 0) 0=some true from rfl,Qa]
  rfl
 |up lv la a o cs b j D C P=>
  have hb:Jf b=some true:=Qv8 (by rw[P.cands];exact C);rw[Qro D,Qa,Y1 (by decide),Y1 (by simp),hb,Qa,Qe rfl,Qzv D P,Qa]
  rfl
theorem Qyq {s s':QAk} {e:QAl} {c:Int} (h:Ok s) (hk:1<=e.Kind∧e.Kind<=10) (G:¬s.Up=(e.Kind==10)) (I:Q4 s e=some (c,s')):Z6 s e=some (if c=0 then s' else s,c):=by
 have J:Qaz s e=some (if c=0 then s' else s,c):=by
  unfold Qaz;rw[QuA h,Qa,Y1 (by decide),QwG h.few,Qa,Qb6 hk.1 hk.2,Qa,Y1 (by decide),Y1 (by simpa using G),I,Qa]
  by_cases hc:c=0
  ·rw[Y1 (by simp[hc]),Y2 hc,hc]
  ·rw[Y2 (by simp[hc]),Y1 hc,Qa]
 show Qb7 s e=_;unfold Qb7;rw[J]
theorem Qyr {s:QAk} {e:QAl} (h:Ok s) (hk:1<=e.Kind∧e.Kind<=10) (G:s.Up=(e.Kind==10)):Z6 s e=some (s,12):=by
 have I:Qaz s e=some (s,12):=by
  unfold Qaz;rw[QuA h,Qa,Y1 (by decide),QwG h.few,Qa,Qb6 hk.1 hk.2,Qa,Y1 (by decide),Y2 (by rw[G];simp)]
 show Qb7 s e=_;unfold Qb7;rw[I]
theorem Qrp {s:QAk} (h:Ok s) (G:s.Up=true):Z6 s ⟨9,ByteArray.empty,ByteArray.empty,0⟩=some (fallV s,0):=by
 have I:Q4 s ⟨9,ByteArray.empty,ByteArray.empty,0⟩=some (0,fallV s):=by
  unfold Q4;rw[Y1 (by decide),Y1 (by decide),Qa,Y1 (by decide),Y1 (by decide),Y1 (by decide),Y1 (by decide),Y1 (by decide),Y1 (by decide),Y2 (by rfl)]
  rfl
 have:=Qyq h (by decide) (by rw[G];decide) I;rwa[Y2 rfl] at this
theorem QwN {xs:List Bt} (h:nB xs):Qy xs=some xs:=Qlz (by have:=h.len;omega)
theorem Qrq {lv la:Int} {a o:QAj} (D:Disk lv la a o):Z6 ⟨false,⟨0,[],0,[],[]⟩,two lv a o,lv,la,jK 0⟩ ⟨10,ByteArray.empty,ByteArray.empty,0⟩=some (Qmg ⟨false,⟨0,[],0,[],[]⟩,two lv a o,lv,la,jK 0⟩,0):=by
 have l0:=D.l0;have l1:=D.l1;have I:Q4 ⟨false,⟨0,[],0,[],[]⟩,two lv a o,lv,la,jK 0⟩ ⟨10,ByteArray.empty,ByteArray.empty,0⟩=some (0,Qmg ⟨false,⟨0,[],0,[],[]⟩,two lv a o,lv,la,jK 0⟩):=by
  unfold Q4;rw[Y1 (by decide),Y1 (by decide),Qa,Y1 (by decide),Y1 (by decide),Y1 (by decide),Y1 (by decide),Y1 (by decide),Y1 (by decide),Y1 (by decide),Y2 (by rfl)];unfold Qbp Qmg QhY Qsm;dsimp only;rw[Qba,Qd (QfR D.lv),QiI D.lv,Qay D.lv,Qa9 D.lv,Qo (n:=la+1) (by omega) (by omega)]
  by_cases ht:a.Trial=true
  ·rw[Y2 ht,Y2 ht,Qd (QbH D.lv),QwN D.ob.neat,Qa,Qa]
  ·rw[Y1 ht,Y1 ht,Qd (QfR D.lv),QwN D.ab.neat,Qa,Qd (QfR D.lv)]
   by_cases G:a.Edition=la
   ·rw[Y1 (by simpa using G),Y2 G,Qa]
   ·rw[Y2 (by simpa using G),Y1 G,Qa]
 have:=Qyq (e:=⟨10,ByteArray.empty,ByteArray.empty,0⟩) (.down lv la a o D) (show(1:Int)<=10∧(10:Int)<=10 by decide) (show ¬(false=true) by decide) I;rwa[Y2 rfl] at this
section
variable {lv la:Int} {a o:QAj} {cs:List QAg} {b:QAh} {j:QAi}
theorem Qz3 (s:QAk):Q4 s ⟨8,ByteArray.empty,ByteArray.empty,0⟩=bd (J3 s) fun G=>some (G.1,{G.2 with Up:=s.Up,Box:={G.2.Box with Cands:=s.Box.Cands}}):=by
 unfold Q4;rw[Y1 (by decide),Y1 (by decide),Qa,Y1 (by decide),Y1 (by decide),Y1 (by decide),Y1 (by decide),Y1 (by decide),Y2 (by decide)]
theorem QuB {x:QAj} (h:lv=0∨lv=1):(two lv a o).set lv.toNat x=two lv x o:=by
 rcases h with rfl|rfl<;>rfl
theorem Qsu (D:Disk lv la a o) (C:CandsB b.Edition cs) (P:Phase la a o cs b j) (hj:j.Kind≠1):Z6 ⟨true,b,two lv a o,lv,la,j⟩ ⟨8,ByteArray.empty,ByteArray.empty,0⟩=some (Qet ⟨true,b,two lv a o,lv,la,j⟩):=by
 have G:Ok ⟨true,b,two lv a o,lv,la,j⟩:=.up lv la a o cs b j D C P;have I:Q4 ⟨true,b,two lv a o,lv,la,j⟩ ⟨8,ByteArray.empty,ByteArray.empty,0⟩=some ((Qet ⟨true,b,two lv a o,lv,la,j⟩).2,(Qet ⟨true,b,two lv a o,lv,la,j⟩).1):=by
  rw[Qz3];unfold J3 Qet;dsimp only;rw[Y1 (show ¬((j.Kind==1)=true) by simpa using hj),Y1 hj]
  by_cases h2:j.Kind=2
  ·rw[Y2 (show(j.Kind==2)=true by simpa using h2),Y2 h2,Qba,Qd (QfR D.lv),Qay D.lv,QuB D.lv,Qa];unfold QhY Qsm;dsimp only;rw[Qay D.lv,Qa9 D.lv]
  rw[Y1 (show ¬((j.Kind==2)=true) by simpa using h2),Y1 h2]
  by_cases h3:j.Kind=3
  ·rw[Y2 (show(j.Kind==3)=true by simpa using h3),Y2 h3,QiI D.lv,Qa]
  ·rw[Y1 (show ¬((j.Kind==3)=true) by simpa using h3),Y1 h3,Qa]
 have:=Qyq (e:=⟨8,ByteArray.empty,ByteArray.empty,0⟩) G (show(1:Int)<=8∧(8:Int)<=10 by decide) (show ¬(true=false) by decide) I;rw[this];unfold Qet;dsimp only;rw[Y1 hj];split
 ·rfl
 ·split<;>rfl
end
theorem QwO (s:QAk) (ev:QAl):QM s ev ((0:Nat):Int)=some s:=by
 unfold QM;rw[Jj (b:=(s.Up,s.Box.Edition,s.Box.Lines,s.Box.Trial,s.Box.Back,s.Box.Cands,s.Slots,s.Live,s.Last,s.Job.Kind,s.Job.Step,s.Job.Edition,s.Job.Ticks,s.Job.Lines)) (by dsimp only;rw[Y1 (by simp)]),Qa]
theorem QuC {s s':QAk} {ev:QAl} {c:Int} {n:Nat} (hn:n<=1000) (h:Z6 s ev=some (s',c)):QM s ev ((n+1:Nat):Int)=QM s' ev (n:Int):=by
 unfold QM;rw[Qac (s':=(s'.Up,s'.Box.Edition,s'.Job.Step,s'.Job.Edition,s'.Job.Ticks,s'.Job.Lines,s'.Box.Lines,s'.Box.Trial,s'.Box.Back,s'.Box.Cands,s'.Slots,s'.Live,s'.Last,s'.Job.Kind,(n:Int)))];dsimp only;rw[Y2 (Yd (by omega)),h,Qa];dsimp only;rw[Qo (by omega) (by omega),show(((n+1:Nat):Int) -1)=(n:Int) by omega]
theorem Qv9 {xs:List Bt} (h:xs.length<=1000):QcK xs xs=some true:=by
 unfold QcK;rw[Y1 (by simp),Qsi xs.length (.inr ()) (fun i hi=>?_) ?_,Qa]
 ·rw[Y1 (by simp)]
 ·have G:(0:Int)<=(i:Int)∧(i:Int)<((xs.length:Nat):Int):=by omega
  rw[Y2 (Yd G.2),Qd G,Qd G,Y1 (by simp),Qk hi (by omega)]
theorem Qsv {s s':QAk} {e:QAl} {c:Int} (h:Z6 s e=some (s',c)):QM s e 1=some s':=(QuC (n:=0) (by omega) h).trans (QwO _ _)
structure Fell (F:List Bt) (E:Int) (x:QAk) (up:Bool):Prop where
 at':∃lv la a o,Disk lv la a o∧F0 a o=F∧E0 la a=E∧x=(if up=true then upS lv la a o else dnS lv la a o)
theorem Fell.ok {F:List Bt} {E:Int} {x:QAk} {up:Bool} (h:Fell F E x up):Ok x∧x.Up=up:=by
 obtain⟨lv,la,a,o,D,_,_,rfl⟩:=h.at'
 cases up
 ·exact⟨D.dn,rfl⟩
 ·exact⟨D.up,rfl⟩
theorem Fell.fall {F:List Bt} {E:Int} {x:QAk} {up:Bool} (h:Fell F E x up):∃J,QM x ⟨9,ByteArray.empty,ByteArray.empty,0⟩ 1=some J∧Fell F E J false:=by
 have⟨G,I⟩:=h.ok
 obtain⟨lv,la,a,o,D,O,hE,rfl⟩:=h.at'
 cases up
 ·exact⟨_,Qsv (Qyr G (by decide) (by rw[I];rfl)),⟨lv,la,a,o,D,O,hE,rfl⟩⟩
 ·exact⟨_,Qsv (Qrp G I),⟨lv,la,a,o,D,O,hE,rfl⟩⟩
theorem Fell.rise {F:List Bt} {E:Int} {x:QAk} (h:Fell F E x false):∃G,QM x ⟨10,ByteArray.empty,ByteArray.empty,0⟩ 1=some G∧Fell F E G true:=by
 obtain⟨lv,la,a,o,D,I,hE,rfl⟩:=h.at'
 exact⟨_,Qsv (Qrq D),⟨lv,la,a,o,D,I,hE,Qqm D⟩⟩
theorem Fell.write {F:List Bt} {E:Int} {x:QAk} (h:Fell F E x true):∃O,QM x ⟨8,ByteArray.empty,ByteArray.empty,0⟩ 1=some O∧Fell F E O true:=by
 obtain⟨lv,la,a,o,D,hF,hE,rfl⟩:=h.at'
 have⟨J,a',o',e1,Y,e2,U⟩:=Quy D
 have hP:Phase la a o [] (⟨E0 la a,F0 a o,0,[],[]⟩:QAh) (if a.Trial=true then jK 3 else jK 0):=by
  have:=D.up
  unfold upS at this
  cases ht:a.Trial
  ·have I:QhX (E0 la a) la a.Edition:=by
    have:=D.a0.2.1
    unfold E0 QhX
    rw[ht]
    split
    ·rename_i h;rcases h with h|h
     ·cases h
     ·omega
    ·rename_i h;simp at h;omega
   have G:F0 a o=a.Lines:=by unfold F0;rw[ht];rfl
   rw[G,Y1 (by decide)]
   exact .idle _ ht I
  ·have I:E0 la a=la+1:=by unfold E0;rw[Y2 (.inl ht)]
   have G:F0 a o=o.Lines:=by unfold F0;rw[Y2 ht]
   rw[G,I,Y2 rfl]
   exact .back ht
 have:=Qsu D .nil hP (by split<;>decide)
 have h2:Z6 (upS lv la a o) ⟨8,ByteArray.empty,ByteArray.empty,0⟩=some ((Qet (upS lv la a o)).1,(Qet (upS lv la a o)).2):=this
 rw[e1] at h2
 exact⟨_,Qsv h2,⟨J,la,a',o',Y,e2.trans hF,U.trans hE,rfl⟩⟩
theorem Qpl {a c:List Int} (ha:a.length<=9223372036854775807∧∀x∈a,QnE x) (_:c.length<=9223372036854775807∧∀x∈c,QnE x):Qc1 a c=some true:=by
 unfold Qc1
 split
 ·rfl
 rename_i hl
 simp only[YE,Yk] at hl
 have⟨s,e0,hs⟩:=Qj0 (a:=a) (by omega) ha.2
 rw[e0,Qa]
 --it is up
 have a9:∃q:QAk,Ok q∧q.Up=true∧(if(!s.Up)=true then bd (QM s ⟨10,ByteArray.empty,ByteArray.empty,0⟩ 1) fun U=>some (U.Up,U.Box.Edition,U.Job.Step,U.Job.Edition,U.Job.Ticks,U.Job.Lines,U.Box.Lines,U.Box.Trial,U.Box.Back,U.Box.Cands,U.Slots,U.Live,U.Last,U.Job.Kind) else some (s.Up,s.Box.Edition,s.Job.Step,s.Job.Edition,s.Job.Ticks,s.Job.Lines,s.Box.Lines,s.Box.Trial,s.Box.Back,s.Box.Cands,s.Slots,s.Live,s.Last,s.Job.Kind))=some (q.Up,q.Box.Edition,q.Job.Step,q.Job.Edition,q.Job.Ticks,q.Job.Lines,q.Box.Lines,q.Box.Trial,q.Box.Back,q.Box.Cands,q.Slots,q.Live,q.Last,q.Job.Kind):=by
  cases hs with
  |down lv la a o D=>
   refine⟨_,Qqj D,?_,?_⟩
   ·rw[Qqm D]
   ·rw[Y2 (by rfl),Qsv (Qrq D),Qa]
  |up lv la a o cs b j D C P=>exact⟨_,.up lv la a o cs b j D C P,rfl,Y1 (by simp)⟩
 have⟨q,hq,b2,e1⟩:=a9
 rw[e1,Qa]
 dsimp only
 cases hq with
 |down lv la a o D=>cases b2
 |up lv la a o cs b j D C P=>
  have hq:Ok ⟨true,b,two lv a o,lv,la,j⟩:=.up lv la a o cs b j D C P
  have⟨f1,f2⟩:=P.falls D
  have ew:(if(decide (b.Trial>0))=true then some b.Back else some b.Lines)=some (F0 a o):=by
   rw[<-f1]
   by_cases h:b.Trial>0
   ·rw[Y2 (Yd h),Y2 h]
   ·rw[Y1 (by simpa using h),Y1 h]
  have J:Fell (F0 a o) (E0 la a) (fallV ⟨true,b,two lv a o,lv,la,j⟩) false:=⟨lv,la,a,o,D,rfl,rfl,rfl⟩
  show bd (if(decide (b.Trial>0))=true then some b.Back else some b.Lines) _=_
  rw[ew,Qa]
  show bd (QM ⟨true,b,two lv a o,lv,la,j⟩ _ 1) _=_
  rw[Qsv (Qrp hq rfl),Qa]
  show bd (QR ⟨true,b,two lv a o,lv,la,j⟩) _=_
  rw[QuA hq,Qa,Qe (by rfl),QuA J.ok.1,Qa,Y1 (by rw[J.ok.2];decide),Qd (by decide)]
  generalize fallV ⟨true,b,two lv a o,lv,la,j⟩=O at J
  have hm3:0<=(((c.length:Nat):Int):Int).tmod 3∧(((c.length:Nat):Int):Int).tmod 3<3:=⟨Y0e _ (by omega),XZ _ (by decide)⟩
  have a7:(((c.length:Nat):Int):Int).tmod 2=0∨(((c.length:Nat):Int):Int).tmod 2=1:=by
   have h1:0<=(((c.length:Nat):Int):Int).tmod 2:=Y0e _ (by omega)
   have h2:(((c.length:Nat):Int):Int).tmod 2<2:=XZ _ (by decide)
   omega
  have a6:IntKind.i64.wrap (1+(((c.length:Nat):Int):Int).tmod 3)=1+(((c.length:Nat):Int):Int).tmod 3:=Qo (by omega) (by omega)
  rw[a6]
  have key:Post (lp (σ:=Bool×Int×Int×Int×Int×List Bt×List Bt×Int×List Bt×List QAg×List QAj×Int×Int×Int×Int) (β:=(Bool×Int×(List Bt)×Int×(List Bt)×(List QAg)×(List QAj)×Int×Int×Int×Int×Int×Int×(List Bt))) _ (O.Up,O.Box.Edition,O.Job.Step,O.Job.Edition,O.Job.Ticks,O.Job.Lines,O.Box.Lines,O.Box.Trial,O.Box.Back,O.Box.Cands,O.Slots,O.Live,O.Last,O.Job.Kind,1+(((c.length:Nat):Int):Int).tmod 3)) fun t=>∃x,Fell (F0 a o) (E0 la a) x true∧t=(x.Up,x.Box.Edition,x.Box.Lines,x.Box.Trial,x.Box.Back,x.Box.Cands,x.Slots,x.Live,x.Last,x.Job.Kind,x.Job.Step,x.Job.Edition,x.Job.Ticks,x.Job.Lines):=
   .lp (step:=fun G=>(if(decide (G.2.2.2.2.2.2.2.2.2.2.2.2.2.2>0))=true then
 bd (QM (⟨G.1,(⟨G.2.1,G.2.2.2.2.2.2.1,G.2.2.2.2.2.2.2.1,G.2.2.2.2.2.2.2.2.1,G.2.2.2.2.2.2.2.2.2.1⟩:QAh),G.2.2.2.2.2.2.2.2.2.2.1,G.2.2.2.2.2.2.2.2.2.2.2.1,G.2.2.2.2.2.2.2.2.2.2.2.2.1,(⟨G.2.2.2.2.2.2.2.2.2.2.2.2.2.1,G.2.2.1,G.2.2.2.1,G.2.2.2.2.1,G.2.2.2.2.2.1⟩:QAi)⟩:QAk) (⟨9,ByteArray.empty,ByteArray.empty,0⟩:QAl) 1) fun a8=>
 bd (QM a8 (⟨10,ByteArray.empty,ByteArray.empty,0⟩:QAl) 1) fun b3=>
 gd ((2:Int)≠0)<|
 bd (QM b3 (⟨8,ByteArray.empty,ByteArray.empty,0⟩:QAl) ((((c.length:Nat):Int):Int).tmod 2)) fun I=>
 some (.inl (I.Up,I.Box.Edition,I.Job.Step,I.Job.Edition,I.Job.Ticks,I.Job.Lines,I.Box.Lines,I.Box.Trial,I.Box.Back,I.Box.Cands,I.Slots,I.Live,I.Last,I.Job.Kind,IntKind.i64.wrap (G.2.2.2.2.2.2.2.2.2.2.2.2.2.2-1)))
else
 some (.inr (G.1,G.2.1,G.2.2.2.2.2.2.1,G.2.2.2.2.2.2.2.1,G.2.2.2.2.2.2.2.2.1,G.2.2.2.2.2.2.2.2.2.1,G.2.2.2.2.2.2.2.2.2.2.1,G.2.2.2.2.2.2.2.2.2.2.2.1,G.2.2.2.2.2.2.2.2.2.2.2.2.1,G.2.2.2.2.2.2.2.2.2.2.2.2.2.1,G.2.2.1,G.2.2.2.1,G.2.2.2.2.1,G.2.2.2.2.2.1)))) (fun t=>∃(x:QAk) (up:Bool) (i:Nat),i<=3∧Fell (F0 a o) (E0 la a) x up∧(i=0->up=true)∧t=(x.Up,x.Box.Edition,x.Job.Step,x.Job.Edition,x.Job.Ticks,x.Job.Lines,x.Box.Lines,x.Box.Trial,x.Box.Back,x.Box.Cands,x.Slots,x.Live,x.Last,x.Job.Kind,(i:Int))) (fun t=>t.2.2.2.2.2.2.2.2.2.2.2.2.2.2.toNat) ⟨O,false,(1+(((c.length:Nat):Int):Int).tmod 3).toNat,by omega,J,fun h=>by omega,by rw[show(((1+(((c.length:Nat):Int):Int).tmod 3).toNat:Nat):Int)=1+(((c.length:Nat):Int):Int).tmod 3 by omega]⟩ (by
    rintro _ ⟨x,up,i,hi,hx,h0,rfl⟩
    dsimp only
    refine .ite (fun hc=>?_) fun hc=>.ret ⟨x,?_,rfl⟩
    ·have hc:=Ym hc
     have ew:IntKind.i64.wrap ((i:Int) -1)=((i-1:Nat):Int):=(Qo (by omega) (by omega)).trans (by omega)
     have⟨x1,p1,y1⟩:=hx.fall
     have⟨x2,p2,y2⟩:=y1.rise
     show Post (bd (QM x _ 1) _) _
     rw[p1,Qa,p2,Qa,Qd (by decide),ew]
     rcases a7 with e|e
     ·rw[e,show QM x2 ⟨8,ByteArray.empty,ByteArray.empty,0⟩ 0=some x2 from QwO _ _,Qa]
      exact .ret ⟨⟨x2,true,i-1,by omega,y2,fun _=>rfl,rfl⟩,by dsimp only;omega⟩
     ·have⟨x3,p3,y3⟩:=y2.write
      rw[e,p3,Qa]
      exact .ret ⟨⟨x3,true,i-1,by omega,y3,fun _=>rfl,rfl⟩,by dsimp only;omega⟩
    ·have:i=0:=by simp at hc;omega
     rw[<-h0 this];exact hx)
  obtain⟨t,et,x,hx,rfl⟩:=key
  refine(congrArg (fun m=>bd m _) et).trans ?_
  rw[Qa]
  dsimp only
  have⟨a1,hu⟩:=hx.ok
  obtain⟨a2,Y,a',o',D',g1,g2,rfl⟩:=hx.at'
  rw[Y2 rfl] at a1|-
  have a3:(F0 a' o').length<=1000:=by
   have:=a1.few.box.lines
   exact this
  have hs:QcK (upS a2 Y a' o').Box.Lines (F0 a o)=some true:=by
   rw[<-g1];exact Qv9 a3
  have a4:QR (upS a2 Y a' o')=some true:=QuA a1
  have a5:b.Edition<=E0 Y a':=by rw[g2];exact f2
  rw[Qe rfl,hs,Qa,Qe (by simp;exact a5)]
  show bd (QR (upS a2 Y a' o')) _=_
  rw[a4,Qa]
  simp
  exact a5
end Go.Proofs.YtoknnjiangjccaaGreatDoor
