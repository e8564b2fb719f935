/-
  Plain Lean: worlds in plain functions: what speaking, bringing, steps and calm rounds make of them; the reference's functions compute these.
-/
import Derived.Test.YtjgjdobkahdgfaaGreatKz5
import Derived.Test.YtjgjdobkahdgfaaGreatHelJz
import Derived.Test.YtjgjdobkahdgfaaGreatHelEz
set_option linter.all false
namespace Go.Proofs.YtjgjdobkahdgfaaGreat
open Go Go.Ab
set_option maxHeartbeats 1000000
set_option maxRecDepth 100000
abbrev W3:=Qwk × Qwk × List Qwl
def toW (s:W3):Qwm:=⟨[s.1,s.2.1],s.2.2⟩
structure Gs (s:W3):Prop where
  two:Two s.1 s.2.1
  len:s.2.2.length≤12
  words:∀ x ∈ s.2.2,Je x=true
theorem Qn0 {s:W3} (h:Gs s):Gw (toW s):=⟨⟨_,_,rfl,h.two⟩,h.len,h.words⟩
theorem QvC {s:W3} (h:Gw (toW s)):Gs s:=by
  obtain ⟨⟨a,b,hs,t⟩,hl,hw⟩:=h;obtain ⟨e1,e2⟩:=List.cons.inj hs;obtain ⟨e2,_⟩:=List.cons.inj e2;exact ⟨by rw [e1,e2]; exact t,hl,hw⟩
theorem QfQ {α:Type} {m:Option α} {x:α} (h:Post m fun y=>y=x):m=some x:=by
  obtain ⟨y,e,rfl⟩:=h;exact e
def QoY:Qwl:=⟨0,0,0,0,0,0,0,0,⟨0,⟨0,0,0,0⟩⟩,0⟩
def QhA (e:Qwj):Qwh :=
  match Z3 (fun i=>!Qcp idE e.Want (e.Told.getD i default)) e.Told.length with
  | some i=>⟨2,⟨(e.Told.getD i default).Addr,(e.Told.getD i default).Len,0,0⟩⟩
  | none=>match Z3 (fun i=>QjW e.Told (e.Want.getD i default)) e.Want.length with
    | some i=>⟨1,e.Want.getD i default⟩
    | none=>if e.All=true then ⟨0,⟨0,0,0,0⟩⟩ else ⟨3,⟨0,0,0,0⟩⟩
theorem Qn1 {e:Qwj} (ht:To e.Told) (hw:To e.Want):QaA e=some (QhA e):=by
  have l1:=ht.len;have l2:=hw.len;unfold QaA QhA;rw [QoU (by omega) (by omega) (Qgs hw),Qb,QoV (by omega) (by omega) (Qgs ht),Qb]
  cases Z3 (fun i=>!Qcp idE e.Want (e.Told.getD i default)) e.Told.length with
  | some i=>rfl
  | none =>
    dsimp only;rw [if_neg (by decide)]
    cases Z3 (fun i=>QjW e.Told (e.Want.getD i default)) e.Want.length with
    | some i=>rfl
    | none =>
      dsimp only;rw [if_neg (by decide)]
      cases e.All <;> rfl
def Qd2 (e:Qwj):Int × Qwh:=if e.Up=true∧e.Under.Kind=0 then (if (QhA e).Kind > 0 then e.Num+1 else e.Num,QhA e) else (e.Num,e.Under)
def Qv7 (e:Qwj):Qwf:=e.Keys.getD (e.Keys.length - 1) default
def QvD (e:Qwj):Qwl:=⟨e.Name,e.Peer,(Qv7 e).Id,e.Boot,e.PeerBoot,e.Turn+1,(Qd2 e).1,e.Got,(Qd2 e).2,0⟩
def QuD (e:Qwj):Qwl:={ QvD e with Sum:=QsT (Qv7 e).Secret (QvD e) }
def Qdk (e:Qwj):Qwj:={ e with Turn:=e.Turn+1,Num:=(Qd2 e).1,Under:=(Qd2 e).2 }
def QgY (e:Qwj):Qwj × Qwl × Bool :=
  if e.Boot=1000 then (e,QoY,false)
  else if e.Turn=1000000 then (ZE e,QoY,false)
  else (Qdk e,QuD e,true)
theorem QoZ {e:Qwj} (h:Eo e):1≤e.Keys.length∧e.Keys.length≤3:=by
  have hk:=h.keys;simp only [Qbc,Bool.and_eq_true,Jy] at hk;omega
theorem QtK {e:Qwj} (h:Eo e):Qae e=some (QgY e):=by
  have L:=(Jd h).mono (m:=1048576) (by decide);have hok:=JI.2 h;have hb:=h.boot;have ht:=h.turn;have hn:=h.num;unfold Qae QgY;rw [Qk3 L.k L.t,hok,Qb,if_neg (by decide),Qe5 L,Qb]
  by_cases cb:e.Boot=1000
  · rw [if_pos (by simpa using cb),if_pos cb]; rfl
  rw [if_neg (by simpa using cb),if_neg cb]
  by_cases ct:e.Turn=1000000
  · have hl:=QjT (QjU h) h.heard;rw [if_pos (by simpa using ct),if_pos ct,QnI L.h hb,Qb,Qe5 ((Jd hl).mono (by decide)),Qb]; rfl
  rw [if_neg (by simpa using ct),if_neg ct];have kp:=QoZ h;have e0:((e.Keys.length:Nat):Int) - 1=((e.Keys.length - 1:Nat):Int):=by omega
  rw [wrap_i64 (n:=e.Turn+1) (by omega) (by omega),wrap_i64 (n:=((e.Keys.length:Nat):Int) - 1) (by omega) (by omega),e0,Int.toNat_natCast];refine (Qt5 (x:=((Qd2 e).1,(Qd2 e).2.Kind,(Qd2 e).2.Entry.Addr,(Qd2 e).2.Entry.Len,(Qd2 e).2.Entry.Cost,(Qd2 e).2.Entry.Label)) ?_).trans ?_
  · unfold Qd2
    by_cases c:e.Up=true∧e.Under.Kind=0
    · rw [if_pos (by simpa using c),if_pos c,Qn1 (e:={ e with Turn:=e.Turn+1 }) h.told h.want,Qb];have en:QhA { e with Turn:=e.Turn+1 }=QhA e:=rfl;rw [en,wrap_i64 (n:=e.Num+1) (by omega) (by omega)]
      by_cases k:(QhA e).Kind > 0
      · rw [if_pos (by simpa using k),if_pos k]
      · rw [if_neg (by simpa using k),if_neg k]
    · rw [if_neg (by simpa using c),if_neg c]
  · dsimp only;rw [Qn (by omega),QoN,Qb]
    rfl
def Qn2 (rd:List Qwl) (x:Qwl):List Qwl:=if rd.length < 12 then rd ++ [x] else rd
def Qe6 (s:Qwk) (x:Qwl):Qwk:=if s.Up=true∧s.End.Name=x.To then ⟨s.Up,helloHear s.End x⟩ else s
def Qu3 (rd:List Qwl) (i:Nat):List Qwl:=rd.take i ++ rd.drop (i+1)
def QfR (s:W3) (i:Nat):W3:=(Qe6 s.1 (s.2.2.getD i default),Qe6 s.2.1 (s.2.2.getD i default),Qu3 s.2.2 i)
def QhB (s:W3):List Qwl:=s.2.2.filter fun w=>QO s.1.End.Keys w || QO s.2.1.End.Keys w
def Qc5 (x:Qwk) (k:Int) (want:List Qwg) (keys:List Qwf):Qwk :=
  if k=1 then (if x.Up=true then ⟨x.Up,(QgY x.End).1⟩ else x)
  else if k=5 then (if x.Up=true then ⟨x.Up,QcU x.End⟩ else x)
  else if k=6 then ⟨false,QrC x.End⟩
  else if k=7 then (if x.Up=true then x else ⟨true,ZE x.End⟩)
  else if k=8 then (if JG want=true then ⟨x.Up,{ x.End with Want:=want }⟩ else x)
  else if k=9 then (if Qbc keys=true then ⟨x.Up,{ x.End with Keys:=keys }⟩ else x)
  else x
def ZJ (x:Qwk) (rd r9:List Qwl) (k:Int) (keys:List Qwf):List Qwl :=
  if k=1 then (if x.Up=true∧(QgY x.End).2.2=true then Qn2 rd (QgY x.End).2.1 else rd)
  else if k=9∧Qbc keys=true then r9 else rd
def QdD (s:W3) (k at_:Int) (want:List Qwg) (keys:List Qwf):W3 :=
  if at_=0 then (Qc5 s.1 k want keys,s.2.1,ZJ s.1 s.2.2 (QhB s) k keys)
  else if at_=1 then (s.1,Qc5 s.2.1 k want keys,ZJ s.2.1 s.2.2 (QhB s) k keys)
  else s
def Qkl (s:W3) (k at_:Int):W3 :=
  if 0≤at_∧at_ < (s.2.2.length:Int) then
    (if k=2 then QfR s at_.toNat else if k=3 then (s.1,s.2.1,Qn2 s.2.2 (s.2.2.getD at_.toNat default)) else (s.1,s.2.1,Qu3 s.2.2 at_.toNat))
  else s
def QhC (s:W3) (x:Qwl):W3 :=
  if Je x=true∧QO s.1.End.Keys x=false∧QO s.2.1.End.Keys x=false then (s.1,s.2.1,Qn2 s.2.2 x) else s
def QcV (s:W3) (e:Qwn):W3 :=
  if e.Kind=2 ∨ e.Kind=3 ∨ e.Kind=4 then Qkl s e.Kind e.At
  else if e.Kind=10 then QhC s e.Word else QdD s e.Kind e.At e.Want e.Keys
theorem QfS {s:Qwk} {x:Qwl} (c:s.Up=true∧s.End.Name=x.To):Qe6 s x=⟨s.Up,helloHear s.End x⟩:=if_pos c
theorem QeE {s:Qwk} {x:Qwl} (c:¬ (s.Up=true∧s.End.Name=x.To)):Qe6 s x=s:=if_neg c
theorem QrM {s:W3} (h:Gs s) {at_:Int} (ha:0≤at_∧at_ < (s.2.2.length:Int)):Qad (toW s) at_=some (toW (QfR s at_.toNat)):=by
  obtain ⟨a,b,R⟩:=s;have t:Two a b:=h.two;have hl:R.length≤12:=h.len;have ha:0≤at_∧at_ < (R.length:Int):=ha;refine QfQ ?_;unfold Qad toW QfR;dsimp only;rw [QrB ha hl,wrap_i64 (n:=at_+1) (by omega) (by omega)];generalize R.getD at_.toNat default=X;refine .gd ha (.gd (by omega) (.gd (by omega) (.gd (by omega) (.gd ?_ (.bd (Q:=fun x=>x.2=[Qe6 a X,Qe6 b X]) (.lp (fun s=>(s.1=[a,b]∧s.2=0) ∨ (s.1=[Qe6 a X,b]∧s.2=1) ∨ (s.1=[Qe6 a X,Qe6 b X]∧s.2=2)) (fun s=>(2 - s.2).toNat) (.inl ⟨rfl,rfl⟩) fun s hs=>?_) fun x hx=>.ret (by rw [hx]; rfl))))))
  · simp [QV]; omega
  · obtain ⟨ys,i⟩:=s;rcases hs with ⟨e1,e2⟩ | ⟨e1,e2⟩ | ⟨e1,e2⟩ <;> dsimp only at e1 e2 <;> subst e1 <;> subst e2
    · refine .ite (fun _=>.gd (by simp) (.gd (fun _=>by simp) (.ite (fun c2=>.gd (by simp) ?_) fun c2=>.ret ⟨.inr (.inl ⟨?_,rfl⟩),by show (2 - IntKind.i64.wrap ((0:Int)+1)).toNat < (2 - (0:Int)).toNat; decide⟩))) fun c=>absurd (by rfl) c
      · have c2:(a.Up && (a.End.Name == X.To))=true:=c2;refine .bd (Q:=fun x=>x=helloHear a.End X) ⟨_,QnS ((Jd t.a.eo).mono (by decide)) _,rfl⟩ fun x hx=>.gd (by simp) (.ret ⟨.inr (.inl ⟨?_,rfl⟩),by show (2 - IntKind.i64.wrap ((0:Int)+1)).toNat < (2 - (0:Int)).toNat; decide⟩);rw [hx,QfS (by simpa using c2)]; rfl
      · have c2:¬ (a.Up && (a.End.Name == X.To))=true:=c2;show [a,b]=[Qe6 a X,b];rw [QeE (by simpa using c2)]
    · refine .ite (fun _=>.gd (by simp) (.gd (fun _=>by simp) (.ite (fun c2=>.gd (by simp) ?_) fun c2=>.ret ⟨.inr (.inr ⟨?_,rfl⟩),by show (2 - IntKind.i64.wrap ((1:Int)+1)).toNat < (2 - (1:Int)).toNat; decide⟩))) fun c=>absurd (by rfl) c
      · have c2:(b.Up && (b.End.Name == X.To))=true:=c2;refine .bd (Q:=fun x=>x=helloHear b.End X) ⟨_,QnS ((Jd t.b.eo).mono (by decide)) _,rfl⟩ fun x hx=>.gd (by simp) (.ret ⟨.inr (.inr ⟨?_,rfl⟩),by show (2 - IntKind.i64.wrap ((1:Int)+1)).toNat < (2 - (1:Int)).toNat; decide⟩);rw [hx,QfS (s:=b) (by simpa using c2)]; rfl
      · have c2:¬ (b.Up && (b.End.Name == X.To))=true:=c2;show [Qe6 a X,b]=[Qe6 a X,Qe6 b X];rw [QeE (s:=b) (by simpa using c2)]
    · refine .ite (fun c=>absurd c (by simp)) fun _=>.ret rfl
theorem Qs3 {s:W3} (h:Gs s) {i:Nat} (hi:i < s.2.2.length):Gs (QfR s i):=by
  obtain ⟨x,e,h2,_⟩:=Qp6 (Qn0 h) (at_:=i) ⟨by omega,by show (i:Int) < (s.2.2.length:Int); omega⟩;rw [QrM h ⟨by omega,by omega⟩,Int.toNat_natCast] at e;obtain rfl:=Option.some.inj e;exact QvC h2
theorem QvE {s:W3} (h:Gs s):Qbh (toW s)=some (QhB s):=by
  obtain ⟨a,b,R⟩:=s;have t:Two a b:=h.two;have hl:R.length≤12:=h.len;have ka:=(Jd t.a.eo).k;have kb:=(Jd t.b.eo).k;refine QfQ ?_;unfold Qbh toW QhB;dsimp only;refine .bd (Q:=fun x=>x.2=R.filter fun w=>QO a.End.Keys w || QO b.End.Keys w) (.lp (fun s=>0≤s.2∧s.2≤(R.length:Int)∧(s.1.length:Int)≤s.2∧s.1=(R.take s.2.toNat).filter fun w=>QO a.End.Keys w || QO b.End.Keys w) (fun s=>(R.length - s.2).toNat) ⟨Int.le_refl _,by dsimp only; omega,Int.le_refl _,rfl⟩ fun s ⟨s0,s1,s2,s3⟩=>?_) fun x hx=>.ret hx;refine .ite (fun c1=>?_) fun c1=>.ret ?_
  · have c1:s.2 < (R.length:Int):=by simpa using c1
    rw [wrap_i64 (n:=s.2+1) (by omega) (by omega)];have tk:R.take (s.2+1).toNat=R.take s.2.toNat ++ [R.getD s.2.toNat default]:=by
      rw [show (s.2+1).toNat=s.2.toNat+1 by omega,List.take_succ,List.getD_eq_getElem?_getD,List.getElem?_eq_getElem (by omega)]
      rfl
    refine .gd (by simp) (.gd (by omega) (.bd (Q:=fun x=>x=QO a.End.Keys (R.getD s.2.toNat default)) ⟨_,Qhx (by exact Nat.le_trans ka (by decide)) _,rfl⟩ fun x7 h7=>.gd (fun _=>by simp) (.gd (fun _=>by omega) (.bd (Q:=fun x=>(x7 || x)=(QO a.End.Keys (R.getD s.2.toNat default) || QO b.End.Keys (R.getD s.2.toNat default))) (.gcall (fun _=>⟨_,Qhx (by exact Nat.le_trans kb (by decide)) _,by rw [h7]; rfl⟩) fun c=>?_) fun x10 h10=>.ite (fun c=>.gd (by omega) (.gd ?_ (.ret ⟨⟨?_,?_,?_,?_⟩,?_⟩))) fun c=>.ret ⟨⟨?_,?_,?_,?_⟩,?_⟩))))
    · have c:x7=true:=by cases x7; exact absurd rfl c; rfl
      rw [← h7,c]; rfl
    · simp; omega
    · dsimp only; omega
    · dsimp only; omega
    · simp; omega
    · dsimp only;rw [tk,List.filter_append,← s3,List.filter_cons_of_pos (by rw [← h10]; exact c)]; rfl
    · dsimp only; omega
    · dsimp only; omega
    · dsimp only; omega
    · dsimp only; omega
    · dsimp only;rw [tk,List.filter_append,← s3,List.filter_cons_of_neg (by rw [← h10]; exact c)]; simp
    · dsimp only; omega
  · have c1:¬ s.2 < (R.length:Int):=by simpa using c1
    rw [s3,List.take_of_length_le (by omega)]
theorem QtL (S:List Qwk) {R:List Qwl} (hl:R.length≤12) (x:Qwl):Jz ⟨S,R⟩ x=some ⟨S,Qn2 R x⟩:=by
  unfold Jz Qn2;dsimp only
  by_cases c:R.length < 12
  · rw [if_pos (by simp; omega),if_pos c,Qn (by simp; omega)]
  · rw [if_neg (by simp; omega),if_neg c]
theorem QuE {s:W3} (h:Gs s) (x:Qwl):Jz (toW s) x=some (toW (s.1,s.2.1,Qn2 s.2.2 x)):=QtL _ h.len x
theorem QtM {s:W3} (h:Gs s) {x:Qwl} (hx:Je x=true):Gs (s.1,s.2.1,Qn2 s.2.2 x):=by
  obtain ⟨y,e,h2⟩:=QsX (Qn0 h) hx;rw [QuE h] at e;obtain rfl:=Option.some.inj e;exact QvC h2
theorem Ql1 {e:Qwj} (h:Eo e):Eo (QgY e).1∧((QgY e).1.Name=e.Name∧(QgY e).1.Peer=e.Peer)∧((QgY e).2.2=true→Je (QgY e).2.1=true):=by
  obtain ⟨x,e1,q⟩:=Qrw h;rw [QtK h] at e1;obtain rfl:=Option.some.inj e1;exact q
theorem Qm0 {x:Qwk} (h:So x) (k:Int) (want:List Qwg) (keys:List Qwf):So (Qc5 x k want keys)∧(Qc5 x k want keys).End.Name=x.End.Name∧(Qc5 x k want keys).End.Peer=x.End.Peer:=by
  unfold Qc5;split
  · split
    · next u =>
      obtain ⟨q1,q2,_⟩:=Ql1 h.eo;exact ⟨⟨q1,fun q=>absurd (q.symm.trans u) (by decide)⟩,q2⟩
    · exact ⟨h,rfl,rfl⟩
  split
  · split
    · next u=>exact ⟨⟨Qrl h.eo,fun q=>absurd (q.symm.trans u) (by decide)⟩,(QmW h.eo).2⟩
    · exact ⟨h,rfl,rfl⟩
  split
  · exact ⟨⟨QnX h.eo,fun _=>⟨rfl,rfl,rfl,rfl,rfl,rfl,rfl,rfl,rfl,rfl⟩⟩,rfl,rfl⟩
  split
  · split
    · exact ⟨h,rfl,rfl⟩
    · exact ⟨⟨QjT (QjU h.eo) h.eo.heard,fun q=>by cases q⟩,rfl,rfl⟩
  split
  · split
    · next c =>
      refine ⟨⟨{ h.eo with want:=QgX.1 c },fun q=>?_⟩,rfl,rfl⟩;have d:=h.down q;exact ⟨d.turn,d.pboot,d.up,d.num,d.kind,d.told,d.all,d.got,d.full,d.heard⟩
    · exact ⟨h,rfl,rfl⟩
  split
  · split
    · next c =>
      refine ⟨⟨{ h.eo with keys:=c },fun q=>?_⟩,rfl,rfl⟩;have d:=h.down q;exact ⟨d.turn,d.pboot,d.up,d.num,d.kind,d.told,d.all,d.got,d.full,d.heard⟩
    · exact ⟨h,rfl,rfl⟩
  · exact ⟨h,rfl,rfl⟩
theorem Qo0 {x:Qwk} (h:So x) {rd r9:List Qwl} (h1:rd.length≤12∧∀ y ∈ rd,Je y=true) (h2:r9.length≤12∧∀ y ∈ r9,Je y=true) (k:Int) (keys:List Qwf):(ZJ x rd r9 k keys).length≤12∧∀ y ∈ ZJ x rd r9 k keys,Je y=true:=by
  unfold ZJ;split
  · split
    · next c =>
      have w:=(Ql1 h.eo).2.2 c.2;unfold Qn2;split
      · refine ⟨by simp; omega,fun y hy=>?_⟩;rcases List.mem_append.1 hy with q | q
        · exact h1.2 y q
        · rw [List.mem_singleton.1 q]; exact w
      · exact h1
    · exact h1
  · split
    · exact h2
    · exact h1
theorem Qn3 {s:W3} (h:Gs s):(QhB s).length≤12∧∀ y ∈ QhB s,Je y=true:=⟨Nat.le_trans (List.length_filter_le _ _) h.len,fun y hy=>h.words y (List.mem_filter.1 hy).1⟩
theorem QuF {s:W3} (h:Gs s) (k at_:Int) (want:List Qwg) (keys:List Qwf):Gs (QdD s k at_ want keys):=by
  unfold QdD;split
  · obtain ⟨q1,q2,q3⟩:=Qm0 h.two.a k want keys;have r:=Qo0 h.two.a ⟨h.len,h.words⟩ (Qn3 h) k keys;exact ⟨⟨q1,h.two.b,q2.trans h.two.ab,h.two.ba.trans q3.symm⟩,r.1,r.2⟩
  split
  · obtain ⟨q1,q2,q3⟩:=Qm0 h.two.b k want keys;have r:=Qo0 h.two.b ⟨h.len,h.words⟩ (Qn3 h) k keys;exact ⟨⟨h.two.a,q1,h.two.ab.trans q3.symm,q2.trans h.two.ba⟩,r.1,r.2⟩
  · exact h
theorem QrN {a b:Qwk} {R:List Qwl} {i:Int} (hi:i=0 ∨ i=1) {k:Int} {want:List Qwg} {keys:List Qwf} {x:Qwk} {rd:List Qwl} (h1:Qc5 (([a,b]:List Qwk).getD i.toNat default) k want keys=x) (h2:ZJ (([a,b]:List Qwk).getD i.toNat default) R (QhB (a,b,R)) k keys=rd):(⟨([a,b]:List Qwk).set i.toNat x,rd⟩:Qwm)=toW (QdD (a,b,R) k i want keys):=by
  subst h1; subst h2;rcases hi with q | q <;> subst q <;> rfl
theorem QuG {a b:Qwk} {R:List Qwl} {i:Int} (hi:i=0 ∨ i=1) {k:Int} {want:List Qwg} {keys:List Qwf} (h1:Qc5 (([a,b]:List Qwk).getD i.toNat default) k want keys=([a,b]:List Qwk).getD i.toNat default) (h2:ZJ (([a,b]:List Qwk).getD i.toNat default) R (QhB (a,b,R)) k keys=R):(⟨[a,b],R⟩:Qwm)=toW (QdD (a,b,R) k i want keys):=by
  rw [← QrN hi h1 h2];rcases hi with q | q <;> subst q <;> rfl
theorem QvF {s:W3} (h:Gs s) {e:Qwn} (he:e.Keys.length≤1048576):Qbi (toW s) e=some (toW (QdD s e.Kind e.At e.Want e.Keys)):=by
  have hrd:=QvE h;obtain ⟨a,b,R⟩:=s;have t:Two a b:=h.two;have hl:R.length≤12:=h.len;have hrd:Qbh ⟨[a,b],R⟩=some (QhB (a,b,R)):=hrd;refine QfQ ?_;show Post (Qbi ⟨[a,b],R⟩ e) _;unfold Qbi;rw [JF,Qb];refine .ite (fun c=>.ret ?_) fun c=>?_
  · have c:inR e.At 0 1=false:=by simpa using c
    have c:¬ (0≤e.At∧e.At≤1):=fun q=>by rw [Jy.2 q] at c; cases c
    unfold QdD;rw [if_neg (by omega),if_neg (by omega)]
    rfl
  have hr:0≤e.At∧e.At < 2:=by
    have:inR e.At 0 1=true:=by simpa using c
    have:=Jy.1 this;omega
  have hi:e.At=0 ∨ e.At=1:=by omega
  have so:=QrA t hr;have hg:(0:Int)≤e.At∧e.At < ((([a,b]:List Qwk).length:Nat):Int):=by simp; omega
  have yes:=@QrN a b R e.At hi e.Kind e.Want e.Keys;have no:=@QuG a b R e.At hi e.Kind e.Want e.Keys;generalize toW (QdD (a,b,R) e.Kind e.At e.Want e.Keys)=Z at *;generalize (([a,b]:List Qwk).getD e.At.toNat default)=X at *;refine .gd hg (.bd (Q:=fun r=>match r with | .inl d=>(⟨d.1,d.2⟩:Qwm)=Z | .inr d=>(⟨d.2.2,d.1⟩:Qwm)=Z) ?_ fun r hr=>?_)
  · refine .ite (fun k=>?_) fun n1=>.ite (fun k=>?_) fun n5=>.ite (fun k=>?_) fun n6=>.ite (fun k=>?_) fun n7=>.ite (fun k=>?_) fun n8=>.ite (fun k=>?_) fun n9=>.ret (no (by simp at n1 n5 n6 n7 n8 n9; simp [Qc5,n1,n5,n6,n7,n8,n9]) (by simp at n1 n9; simp [ZJ,n1,n9]))
    · have k:e.Kind=1:=by simpa using k
      refine .ite (fun u=>.bd (Q:=fun x=>x=QgY X.End) ⟨_,QtK so.eo,rfl⟩ fun x hx=>.gd hg ?_) fun u=>.ret (no (by simp [Qc5,k,u]) (by simp [ZJ,k,u]));subst hx;refine .ite (fun w=>?_) fun w=>.ret (yes (by simp [Qc5,k,u]) (by simp [ZJ,k,w]));exact .bd (Q:=fun x=>x=⟨([a,b]:List Qwk).set e.At.toNat ⟨X.Up,(QgY X.End).1⟩,Qn2 R (QgY X.End).2.1⟩) ⟨_,QtL _ hl _,rfl⟩ fun x hx=>.ret (by rw [hx]; exact yes (by simp [Qc5,k,u]) (by simp [ZJ,k,u,w]))
    · have k:e.Kind=5:=by simpa using k
      refine .ite (fun u=>?_) fun u=>.ret (no (by simp [Qc5,k,u]) (by simp [ZJ,k]));have L:=(Jd so.eo).mono (m:=1048576) (by decide);exact .bd (Q:=fun x=>x=QcU X.End) ⟨_,Quq L.k L.t,(QmW so.eo).1⟩ fun x hx=>.gd hg (.ret (by rw [hx]; exact yes (by simp [Qc5,k,u]) (by simp [ZJ,k])))
    · have k:e.Kind=6:=by simpa using k
      have d:=QnX so.eo;refine .bd (Q:=fun x=>x=QrC X.End) ⟨_,?_,rfl⟩ fun x hx=>.gd hg (.ret (by rw [hx]; exact yes (by simp [Qc5,k]) (by simp [ZJ,k])));unfold QcX;refine (congrArg (fun m=>bd m _) (Qe5 ((Jd d).mono (by decide)))).trans ?_;rw [Qb]
    · have k:e.Kind=7:=by simpa using k
      refine .ite (fun u=>?_) fun u=>.ret (no (by simp at u; simp [Qc5,k,u]) (by simp [ZJ,k]));have u:X.Up=false:=by simpa using u
      exact .bd (Q:=fun x=>x=ZE X.End) ⟨_,Quy so.eo (so.down u).heard,rfl⟩ fun x hx=>.gd hg (.ret (by rw [hx]; exact yes (by simp [Qc5,k,u]) (by simp [ZJ,k])))
    · have k:e.Kind=8:=by simpa using k
      rw [QiP,Qb];refine .ite (fun w=>?_) fun w=>.ret (no (by simp [Qc5,k,w]) (by simp [ZJ,k]));have:=(QgX.1 w).len;rw [Qin (by omega),Qb];refine .gd hg ?_;rw [Qb];exact .ret (yes (by simp [Qc5,k,w]) (by simp [ZJ,k]))
    · have k:e.Kind=9:=by simpa using k
      rw [QnE he,Qb];refine .ite (fun w=>?_) fun w=>.ret (no (by simp [Qc5,k,w]) (by simp [ZJ,k,w]));rw [hrd,Qb];unfold Qaw;rw [Qn (by omega),Qb];refine .gd hg ?_;rw [Qb];exact .ret (yes (by simp [Qc5,k,w]) (by simp [ZJ,k,w]))
  · cases r with
    | inl d=>exact .ret hr
    | inr d=>exact .ret hr
theorem QvG {s:W3} (h:Gs s) (i:Nat):Gs (s.1,s.2.1,Qu3 s.2.2 i):=by
  have:=h.len;exact ⟨h.two,by unfold Qu3; simp; omega,QmV h.words⟩
theorem QvH {s:W3} (h:Gs s) (e:Qwn):Qb2 (toW s) e=some (toW (Qkl s e.Kind e.At)):=by
  have hl:=h.len;have hL:(toW s).Radio=s.2.2:=rfl;refine QfQ ?_;unfold Qb2 Qkl;rw [hL,JF,Qb,wrap_i64 (n:=((s.2.2.length:Nat):Int) - 1) (by omega) (by omega)];refine .ite (fun c=>?_) fun c=>?_
  · have c:inR e.At 0 (((s.2.2.length:Nat):Int) - 1)=false:=by simpa using c
    have c:¬ (0≤e.At∧e.At≤(s.2.2.length:Int) - 1):=fun q=>by rw [Jy.2 q] at c; cases c
    rw [if_neg (by omega)];exact .ret rfl
  have hi:0≤e.At∧e.At < (s.2.2.length:Int):=by
    have:inR e.At 0 (((s.2.2.length:Nat):Int) - 1)=true:=by simpa using c
    have:=Jy.1 this;omega
  rw [if_pos hi];refine .ite (fun k=>?_) fun n=>.ite (fun k=>?_) fun n2=>?_
  · rw [if_pos (by simpa using k)];exact .bd (Q:=fun x=>x=_) ⟨_,QrM h hi,rfl⟩ fun x hx=>.ret hx
  · rw [if_neg (by simpa using n),if_pos (by simpa using k)];exact .gd hi (.bd (Q:=fun x=>x=_) ⟨_,QuE h _,rfl⟩ fun x hx=>.ret hx)
  · rw [if_neg (by simpa using n),if_neg (by simpa using n2),QrB hi hl,wrap_i64 (n:=e.At+1) (by omega) (by omega)];refine .gd (by omega) (.gd (by omega) (.gd (by omega) (.gd ?_ (.ret rfl))));simp [QV]; omega
theorem QuH {s:W3} (h:Gs s) (k at_:Int):Gs (Qkl s k at_):=by
  unfold Qkl;split
  · next c =>
    split
    · exact Qs3 h (by omega)
    split
    · exact QtM h (h.words _ (Zo (by omega)))
    · exact QvG h _
  · exact h
theorem QuI {s:W3} (h:Gs s) (x:Qwl):Qby (toW s) x=some (toW (QhC s x)):=by
  have ka:=(Jd h.two.a.eo).k;have kb:=(Jd h.two.b.eo).k;have e0:((toW s).Sides.getD 0 default)=s.1:=rfl;have e1:((toW s).Sides.getD 1 default)=s.2.1:=rfl;have hS:(toW s).Sides.length=2:=rfl;unfold Qby QhC;rw [QnL,Qb,hS,e0,e1,Qn (fun _=>by decide),Qhx (by omega),Qhx (by omega)]
  cases Je x
  · simp [gcall,gd]
  · cases QO s.1.End.Keys x
    · cases QO s.2.1.End.Keys x
      · simp [gcall,gd,QuE h]
      · simp [gcall,gd]
    · simp [gcall,gd]
theorem Qs4 {s:W3} (h:Gs s) (x:Qwl):Gs (QhC s x):=by
  unfold QhC;split
  · next c=>exact QtM h c.1
  · exact h
theorem Qn4 {s:W3} (h:Gs s) (e:Qwn):Gs (QcV s e):=by
  unfold QcV;split
  · exact QuH h _ _
  split
  · exact Qs4 h _
  · exact QuF h _ _ _ _
theorem QtN {s:W3} (h:Gs s) {e:Qwn} (he:e.Keys.length≤1048576):Qaq (toW s) e=some (toW (QcV s e)):=by
  have ok:=QfQ ((Qrx (Qn0 h)).mono fun x hx=>hx);unfold Qaq;rw [ok,Qb,if_neg (by decide),Qrz (Qn0 h),Qb];have hd:Qc6 (toW s) e=some (toW (QcV s e)):=by
    unfold Qc6 QcV;have h1:(if (e.Kind == 2)=true then some (e.Kind == 2) else if (e.Kind == 3)=true then some (e.Kind == 3) else some (e.Kind == 4))=some (decide (e.Kind=2 ∨ e.Kind=3 ∨ e.Kind=4)):=by
      by_cases c2:e.Kind=2
      · simp [c2]
      by_cases c3:e.Kind=3
      · simp [c3]
      by_cases c4:e.Kind=4
      · simp [c4]
      simp [c2,c3,c4]
    rw [h1,Qb]
    by_cases c:e.Kind=2 ∨ e.Kind=3 ∨ e.Kind=4
    · rw [if_pos (by simpa using c),if_pos c,QvH h,Qb]
    · rw [if_neg (by simpa using c),if_neg c]
      by_cases c10:e.Kind=10
      · rw [if_pos (by simpa using c10),if_pos c10,QuI h,Qb]
      · rw [if_neg (by simpa using c10),if_neg c10,QvF h he,Qb]
  rw [hd,Qb,Qrz (Qn0 (Qn4 h e)),Qb]
end Go.Proofs.YtjgjdobkahdgfaaGreat
