/-
  Plain Lean: worlds in plain functions: what speaking, bringing, steps and calm rounds make of them; the reference's functions compute these.
-/
import Derived.Test.YtjgjdobkahdgfaaGreatKz6
import Derived.Test.YtjgjdobkahdgfaaGreatHelJz
import Derived.Test.YtjgjdobkahdgfaaGreatHelEz
set_option linter.all false
namespace Go.Proofs.YtjgjdobkahdgfaaGreat
open Go Go.Ab
set_option maxHeartbeats 1000000
set_option maxRecDepth 100000
abbrev W3:=Qv6 × Qv6 × List Qv7
def toW (s:W3):Qv8:=⟨[s.1,s.2.1],s.2.2⟩
structure Gs (s:W3):Prop where
  two:Two s.1 s.2.1
  len:s.2.2.length≤12
  words:∀ x ∈ s.2.2,Zw x=true
theorem Qr1 {s:W3} (h:Gs s):Gw (toW s):=⟨⟨_,_,rfl,h.two⟩,h.len,h.words⟩
theorem Qvi {w:Qv8} (h:Gw w):∃ s,w=toW s∧Gs s:=by
  obtain ⟨⟨a,b,hs,t⟩,hl,hw⟩:=h;obtain ⟨S,R⟩:=w;dsimp only at hs hl hw;subst hs;exact ⟨(a,b,R),rfl,t,hl,hw⟩
theorem QvJ {s:W3} (h:Gw (toW s)):Gs s:=by
  obtain ⟨⟨a,b,hs,t⟩,hl,hw⟩:=h;obtain ⟨e1,e2⟩:=List.cons.inj hs;obtain ⟨e2,_⟩:=List.cons.inj e2;exact ⟨by rw [e1,e2]; exact t,hl,hw⟩
theorem Qev {α:Type} {m:Option α} {x:α} (h:Post m fun y=>y=x):m=some x:=by
  obtain ⟨y,e,rfl⟩:=h;exact e
def Qly:Qv7:=⟨0,0,0,0,0,0,0,0,⟨0,⟨0,0,0,0⟩⟩,0⟩
def Qiz (e:Qv5):Qv3 :=
  match Z7 (fun i=>!Qdp idE e.Want (e.Told.getD i default)) e.Told.length with
  | some i=>⟨2,⟨(e.Told.getD i default).Addr,(e.Told.getD i default).Len,0,0⟩⟩
  | none=>match Z7 (fun i=>Qki e.Told (e.Want.getD i default)) e.Want.length with
    | some i=>⟨1,e.Want.getD i default⟩
    | none=>if e.All=true then ⟨0,⟨0,0,0,0⟩⟩ else ⟨3,⟨0,0,0,0⟩⟩
theorem Qr2 {e:Qv5} (ht:To e.Told) (hw:To e.Want):QaI e=some (Qiz e):=by
  have l1:=ht.len;have l2:=hw.len;unfold QaI Qiz;rw [Qpj (by omega) (by omega) (QhS hw),Qb,Qpk (by omega) (by omega) (QhS ht),Qb]
  cases Z7 (fun i=>!Qdp idE e.Want (e.Told.getD i default)) e.Told.length with
  | some i=>rfl
  | none =>
    dsimp only;rw [if_neg (by decide)]
    cases Z7 (fun i=>Qki e.Told (e.Want.getD i default)) e.Want.length with
    | some i=>rfl
    | none =>
      dsimp only;rw [if_neg (by decide)]
      cases e.All <;> rfl
def Qfu (e:Qv5):Int × Qv3:=if e.Up=true∧e.Under.Kind=0 then (if (Qiz e).Kind > 0 then e.Num+1 else e.Num,Qiz e) else (e.Num,e.Under)
def QvS (e:Qv5):Qv1:=e.Keys.getD (e.Keys.length - 1) default
def Qvj (e:Qv5):Qv7:=⟨e.Name,e.Peer,(QvS e).Id,e.Boot,e.PeerBoot,e.Turn+1,(Qfu e).1,e.Got,(Qfu e).2,0⟩
def QvZ (e:Qv5):Qv7:={ Qvj e with Sum:=QsW (QvS e).Secret (Qvj e) }
def QvK (e:Qv5):Qv5:={ e with Turn:=e.Turn+1,Num:=(Qfu e).1,Under:=(Qfu e).2 }
def Qkp (e:Qv5):Qv5 × Qv7 × Bool :=
  if e.Boot=1000 then (e,Qly,false)
  else if e.Turn=1000000 then (Qaw e,Qly,false)
  else (QvK e,QvZ e,true)
theorem Qpn {e:Qv5} (h:Eo e):1≤e.Keys.length∧e.Keys.length≤3:=by
  have hk:=h.keys;simp only [Qbx,Bool.and_eq_true,JV] at hk;omega
theorem QtC {e:Qv5} (h:Eo e):JO e=some (Qkp e):=by
  have L:=(ZE h).mono (m:=1048576) (by decide);have hok:=JX.2 h;have hb:=h.boot;have ht:=h.turn;have hn:=h.num;unfold JO Qkp;rw [Qkd L.k L.t,hok,Qb,if_neg (by decide),Qc7 L,Qb]
  by_cases cb:e.Boot=1000
  · rw [if_pos (by simpa using cb),if_pos cb]; rfl
  rw [if_neg (by simpa using cb),if_neg cb]
  by_cases ct:e.Turn=1000000
  · have hl:=Qiu (Qiv h) h.heard;rw [if_pos (by simpa using ct),if_pos ct,Qn8 L.h hb,Qb,Qc7 ((ZE hl).mono (by decide)),Qb]; rfl
  rw [if_neg (by simpa using ct),if_neg ct];have kp:=Qpn h;have e0:((e.Keys.length:Nat):Int) - 1=((e.Keys.length - 1:Nat):Int):=by omega
  rw [wrap_i64 (n:=e.Turn+1) (by omega) (by omega),wrap_i64 (n:=((e.Keys.length:Nat):Int) - 1) (by omega) (by omega),e0,Int.toNat_natCast];refine (QjU (x:=((Qfu e).1,(Qfu e).2.Kind,(Qfu e).2.Entry.Addr,(Qfu e).2.Entry.Len,(Qfu e).2.Entry.Cost,(Qfu e).2.Entry.Label)) ?_).trans ?_
  · unfold Qfu
    by_cases c:e.Up=true∧e.Under.Kind=0
    · rw [if_pos (by simpa using c),if_pos c,Qr2 (e:={ e with Turn:=e.Turn+1 }) h.told h.want,Qb];have en:Qiz { e with Turn:=e.Turn+1 }=Qiz e:=rfl;rw [en,wrap_i64 (n:=e.Num+1) (by omega) (by omega)]
      by_cases k:(Qiz e).Kind > 0
      · rw [if_pos (by simpa using k),if_pos k]
      · rw [if_neg (by simpa using k),if_neg k]
    · rw [if_neg (by simpa using c),if_neg c]
  · dsimp only;rw [Qn (by omega),Qnj,Qb]
    rfl
def Qs2 (rd:List Qv7) (x:Qv7):List Qv7:=if rd.length < 12 then rd ++ [x] else rd
def Qf5 (s:Qv6) (x:Qv7):Qv6:=if s.Up=true∧s.End.Name=x.To then ⟨s.Up,ZJ s.End x⟩ else s
def QvL (rd:List Qv7) (i:Nat):List Qv7:=rd.take i ++ rd.drop (i+1)
def QhV (s:W3) (i:Nat):W3:=(Qf5 s.1 (s.2.2.getD i default),Qf5 s.2.1 (s.2.2.getD i default),QvL s.2.2 i)
def Qs3 (s:W3):W3:=(s.2.2.foldl Qf5 s.1,s.2.2.foldl Qf5 s.2.1,[])
def QiA (s:W3):List Qv7:=s.2.2.filter fun w=>Zk s.1.End.Keys w || Zk s.2.1.End.Keys w
def Qfi (x:Qv6) (k:Int) (want:List Qv2) (keys:List Qv1):Qv6 :=
  if k=1 then (if x.Up=true then ⟨x.Up,(Qkp x.End).1⟩ else x)
  else if k=5 then (if x.Up=true then ⟨x.Up,Qd8 x.End⟩ else x)
  else if k=6 then ⟨false,Qqh x.End⟩
  else if k=7 then (if x.Up=true then x else ⟨true,Qaw x.End⟩)
  else if k=8 then (if JW want=true then ⟨x.Up,{ x.End with Want:=want }⟩ else x)
  else if k=9 then (if Qbx keys=true then ⟨x.Up,{ x.End with Keys:=keys }⟩ else x)
  else x
def Jx (x:Qv6) (rd r9:List Qv7) (k:Int) (keys:List Qv1):List Qv7 :=
  if k=1 then (if x.Up=true∧(Qkp x.End).2.2=true then Qs2 rd (Qkp x.End).2.1 else rd)
  else if k=9∧Qbx keys=true then r9 else rd
def Qf6 (s:W3) (k at_:Int) (want:List Qv2) (keys:List Qv1):W3 :=
  if at_=0 then (Qfi s.1 k want keys,s.2.1,Jx s.1 s.2.2 (QiA s) k keys)
  else if at_=1 then (s.1,Qfi s.2.1 k want keys,Jx s.2.1 s.2.2 (QiA s) k keys)
  else s
def Qs4 (s:W3) (k at_:Int):W3 :=
  if 0≤at_∧at_ < (s.2.2.length:Int) then
    (if k=2 then QhV s at_.toNat else if k=3 then (s.1,s.2.1,Qs2 s.2.2 (s.2.2.getD at_.toNat default)) else (s.1,s.2.1,QvL s.2.2 at_.toNat))
  else s
def Qlz (s:W3):W3:=Qf6 (Qf6 (Qs3 (Qf6 (Qf6 (Qs3 s) 1 0 [] []) 1 1 [] [])) 5 0 [] []) 5 1 [] []
def Qgv:Nat→W3→W3
  | 0,s=>s
  | n+1,s=>Qgv n (Qlz s)
theorem Qnw (m n:Nat) (s:W3):Qgv (m+n) s=Qgv n (Qgv m s):=by
  induction m generalizing s with
  | zero=>rw [Nat.zero_add]; rfl
  | succ m ih=>rw [Nat.succ_add]; exact ih _
theorem QlA (n:Nat) (s:W3):Qgv (n+1) s=Qlz (Qgv n s):=Qnw n 1 s
theorem QhW {s:Qv6} {x:Qv7} (c:s.Up=true∧s.End.Name=x.To):Qf5 s x=⟨s.Up,ZJ s.End x⟩:=if_pos c
theorem Qf7 {s:Qv6} {x:Qv7} (c:¬ (s.Up=true∧s.End.Name=x.To)):Qf5 s x=s:=if_neg c
theorem Qos {s:W3} (h:Gs s) {at_:Int} (ha:0≤at_∧at_ < (s.2.2.length:Int)):Jm (toW s) at_=some (toW (QhV s at_.toNat)):=by
  obtain ⟨a,b,R⟩:=s;have t:Two a b:=h.two;have hl:R.length≤12:=h.len;have ha:0≤at_∧at_ < (R.length:Int):=ha;refine Qev ?_;unfold Jm toW QhV;dsimp only;rw [QrR ha hl,wrap_i64 (n:=at_+1) (by omega) (by omega)];generalize R.getD at_.toNat default=X;refine .gd ha (.gd (by omega) (.gd (by omega) (.gd (by omega) (.gd ?_ (.bd (Q:=fun x=>x.2=[Qf5 a X,Qf5 b X]) (.lp (fun s=>(s.1=[a,b]∧s.2=0) ∨ (s.1=[Qf5 a X,b]∧s.2=1) ∨ (s.1=[Qf5 a X,Qf5 b X]∧s.2=2)) (fun s=>(2 - s.2).toNat) (.inl ⟨rfl,rfl⟩) fun s hs=>?_) fun x hx=>.ret (by rw [hx]; rfl))))))
  · simp [QW]; omega
  · obtain ⟨ys,i⟩:=s;rcases hs with ⟨e1,e2⟩ | ⟨e1,e2⟩ | ⟨e1,e2⟩ <;> dsimp only at e1 e2 <;> subst e1 <;> subst e2
    · refine .ite (fun _=>.gd (by simp) (.gd (fun _=>by simp) (.ite (fun c2=>.gd (by simp) ?_) fun c2=>.ret ⟨.inr (.inl ⟨?_,rfl⟩),by show (2 - IntKind.i64.wrap ((0:Int)+1)).toNat < (2 - (0:Int)).toNat; decide⟩))) fun c=>absurd (by rfl) c
      · have c2:(a.Up && (a.End.Name == X.To))=true:=c2;refine .bd (Q:=fun x=>x=ZJ a.End X) ⟨_,Qof ((ZE t.a.eo).mono (by decide)) _,rfl⟩ fun x hx=>.gd (by simp) (.ret ⟨.inr (.inl ⟨?_,rfl⟩),by show (2 - IntKind.i64.wrap ((0:Int)+1)).toNat < (2 - (0:Int)).toNat; decide⟩);rw [hx,QhW (by simpa using c2)]; rfl
      · have c2:¬ (a.Up && (a.End.Name == X.To))=true:=c2;show [a,b]=[Qf5 a X,b];rw [Qf7 (by simpa using c2)]
    · refine .ite (fun _=>.gd (by simp) (.gd (fun _=>by simp) (.ite (fun c2=>.gd (by simp) ?_) fun c2=>.ret ⟨.inr (.inr ⟨?_,rfl⟩),by show (2 - IntKind.i64.wrap ((1:Int)+1)).toNat < (2 - (1:Int)).toNat; decide⟩))) fun c=>absurd (by rfl) c
      · have c2:(b.Up && (b.End.Name == X.To))=true:=c2;refine .bd (Q:=fun x=>x=ZJ b.End X) ⟨_,Qof ((ZE t.b.eo).mono (by decide)) _,rfl⟩ fun x hx=>.gd (by simp) (.ret ⟨.inr (.inr ⟨?_,rfl⟩),by show (2 - IntKind.i64.wrap ((1:Int)+1)).toNat < (2 - (1:Int)).toNat; decide⟩);rw [hx,QhW (s:=b) (by simpa using c2)]; rfl
      · have c2:¬ (b.Up && (b.End.Name == X.To))=true:=c2;show [Qf5 a X,b]=[Qf5 a X,Qf5 b X];rw [Qf7 (s:=b) (by simpa using c2)]
    · refine .ite (fun c=>absurd c (by simp)) fun _=>.ret rfl
theorem Qmv {s:W3} (h:Gs s) {i:Nat} (hi:i < s.2.2.length):Gs (QhV s i):=by
  obtain ⟨x,e,h2,_⟩:=Qgo (Qr1 h) (at_:=i) ⟨by omega,by show (i:Int) < (s.2.2.length:Int); omega⟩;rw [Qos h ⟨by omega,by omega⟩,Int.toNat_natCast] at e;obtain rfl:=Option.some.inj e;exact QvJ h2
theorem Qvk {s:W3} (h:Gs s):JK (toW s)=some (QiA s):=by
  obtain ⟨a,b,R⟩:=s;have t:Two a b:=h.two;have hl:R.length≤12:=h.len;have ka:=(ZE t.a.eo).k;have kb:=(ZE t.b.eo).k;refine Qev ?_;unfold JK toW QiA;dsimp only;refine .bd (Q:=fun x=>x.2=R.filter fun w=>Zk a.End.Keys w || Zk b.End.Keys w) (.lp (fun s=>0≤s.2∧s.2≤(R.length:Int)∧(s.1.length:Int)≤s.2∧s.1=(R.take s.2.toNat).filter fun w=>Zk a.End.Keys w || Zk b.End.Keys w) (fun s=>(R.length - s.2).toNat) ⟨Int.le_refl _,by dsimp only; omega,Int.le_refl _,rfl⟩ fun s ⟨s0,s1,s2,s3⟩=>?_) fun x hx=>.ret hx;refine .ite (fun c1=>?_) fun c1=>.ret ?_
  · have c1:s.2 < (R.length:Int):=by simpa using c1
    rw [wrap_i64 (n:=s.2+1) (by omega) (by omega)];have tk:R.take (s.2+1).toNat=R.take s.2.toNat ++ [R.getD s.2.toNat default]:=by
      rw [show (s.2+1).toNat=s.2.toNat+1 by omega,List.take_succ,List.getD_eq_getElem?_getD,List.getElem?_eq_getElem (by omega)]
      rfl
    refine .gd (by simp) (.gd (by omega) (.bd (Q:=fun x=>x=Zk a.End.Keys (R.getD s.2.toNat default)) ⟨_,Qfh (by exact Nat.le_trans ka (by decide)) _,rfl⟩ fun x7 h7=>.gd (fun _=>by simp) (.gd (fun _=>by omega) (.bd (Q:=fun x=>(x7 || x)=(Zk a.End.Keys (R.getD s.2.toNat default) || Zk b.End.Keys (R.getD s.2.toNat default))) (.gcall (fun _=>⟨_,Qfh (by exact Nat.le_trans kb (by decide)) _,by rw [h7]; rfl⟩) fun c=>?_) fun x10 h10=>.ite (fun c=>.gd (by omega) (.gd ?_ (.ret ⟨⟨?_,?_,?_,?_⟩,?_⟩))) fun c=>.ret ⟨⟨?_,?_,?_,?_⟩,?_⟩))))
    · have c:x7=true:=by cases x7; exact absurd rfl c; rfl
      rw [← h7,c]; rfl
    · simp; omega
    · dsimp only; omega
    · dsimp only; omega
    · simp; omega
    · dsimp only;rw [tk,List.filter_append,← s3,List.filter_cons_of_pos (by rw [← h10]; exact c)]; rfl
    · dsimp only; omega
    · dsimp only; omega
    · dsimp only; omega
    · dsimp only; omega
    · dsimp only;rw [tk,List.filter_append,← s3,List.filter_cons_of_neg (by rw [← h10]; exact c)]; simp
    · dsimp only; omega
  · have c1:¬ s.2 < (R.length:Int):=by simpa using c1
    rw [s3,List.take_of_length_le (by omega)]
theorem Qvl (S:List Qv6) {R:List Qv7} (hl:R.length≤12) (x:Qv7):Qad ⟨S,R⟩ x=some ⟨S,Qs2 R x⟩:=by
  unfold Qad Qs2;dsimp only
  by_cases c:R.length < 12
  · rw [if_pos (by simp; omega),if_pos c,Qn (by simp; omega)]
  · rw [if_neg (by simp; omega),if_neg c]
theorem Quy (S:List Qv6) {R:List Qv7} (hl:R.length≤12) (x:Qv7):QaY ⟨S,R⟩ x=some ⟨S,Qs2 R x⟩:=Qvl S hl x
theorem Qpo {e:Qv5} (h:Eo e):Eo (Qkp e).1∧((Qkp e).1.Name=e.Name∧(Qkp e).1.Peer=e.Peer)∧((Qkp e).2.2=true→Zw (Qkp e).2.1=true):=by
  obtain ⟨x,e1,q⟩:=Qkj h;rw [QtC h] at e1;obtain rfl:=Option.some.inj e1;exact q
theorem QtD {x:Qv6} (h:So x) (k:Int) (want:List Qv2) (keys:List Qv1):So (Qfi x k want keys)∧(Qfi x k want keys).End.Name=x.End.Name∧(Qfi x k want keys).End.Peer=x.End.Peer:=by
  unfold Qfi;split
  · split
    · next u =>
      obtain ⟨q1,q2,_⟩:=Qpo h.eo;exact ⟨⟨q1,fun q=>absurd (q.symm.trans u) (by decide)⟩,q2⟩
    · exact ⟨h,rfl,rfl⟩
  split
  · split
    · next u=>exact ⟨⟨Qoj h.eo,fun q=>absurd (q.symm.trans u) (by decide)⟩,(QhT h.eo).2⟩
    · exact ⟨h,rfl,rfl⟩
  split
  · exact ⟨⟨Qms h.eo,fun _=>⟨rfl,rfl,rfl,rfl,rfl,rfl,rfl,rfl,rfl,rfl⟩⟩,rfl,rfl⟩
  split
  · split
    · exact ⟨h,rfl,rfl⟩
    · exact ⟨⟨Qiu (Qiv h.eo) h.eo.heard,fun q=>by cases q⟩,rfl,rfl⟩
  split
  · split
    · next c =>
      refine ⟨⟨{ h.eo with want:=Qd6.1 c },fun q=>?_⟩,rfl,rfl⟩;have d:=h.down q;exact ⟨d.turn,d.pboot,d.up,d.num,d.kind,d.told,d.all,d.got,d.full,d.heard⟩
    · exact ⟨h,rfl,rfl⟩
  split
  · split
    · next c =>
      refine ⟨⟨{ h.eo with keys:=c },fun q=>?_⟩,rfl,rfl⟩;have d:=h.down q;exact ⟨d.turn,d.pboot,d.up,d.num,d.kind,d.told,d.all,d.got,d.full,d.heard⟩
    · exact ⟨h,rfl,rfl⟩
  · exact ⟨h,rfl,rfl⟩
theorem Qpp {x:Qv6} (h:So x) {rd r9:List Qv7} (h1:rd.length≤12∧∀ y ∈ rd,Zw y=true) (h2:r9.length≤12∧∀ y ∈ r9,Zw y=true) (k:Int) (keys:List Qv1):(Jx x rd r9 k keys).length≤12∧∀ y ∈ Jx x rd r9 k keys,Zw y=true:=by
  unfold Jx;split
  · split
    · next c =>
      have w:=(Qpo h.eo).2.2 c.2;unfold Qs2;split
      · refine ⟨by simp; omega,fun y hy=>?_⟩;rcases List.mem_append.1 hy with q | q
        · exact h1.2 y q
        · rw [List.mem_singleton.1 q]; exact w
      · exact h1
    · exact h1
  · split
    · exact h2
    · exact h1
theorem Qr3 {s:W3} (h:Gs s):(QiA s).length≤12∧∀ y ∈ QiA s,Zw y=true:=⟨Nat.le_trans (List.length_filter_le _ _) h.len,fun y hy=>h.words y (List.mem_filter.1 hy).1⟩
theorem Qew {s:W3} (h:Gs s) (k at_:Int) (want:List Qv2) (keys:List Qv1):Gs (Qf6 s k at_ want keys):=by
  unfold Qf6;split
  · obtain ⟨q1,q2,q3⟩:=QtD h.two.a k want keys;have r:=Qpp h.two.a ⟨h.len,h.words⟩ (Qr3 h) k keys;exact ⟨⟨q1,h.two.b,q2.trans h.two.ab,h.two.ba.trans q3.symm⟩,r.1,r.2⟩
  split
  · obtain ⟨q1,q2,q3⟩:=QtD h.two.b k want keys;have r:=Qpp h.two.b ⟨h.len,h.words⟩ (Qr3 h) k keys;exact ⟨⟨h.two.a,q1,h.two.ab.trans q3.symm,q2.trans h.two.ba⟩,r.1,r.2⟩
  · exact h
theorem Qr4 {a b:Qv6} {R:List Qv7} {i:Int} (hi:i=0 ∨ i=1) {k:Int} {want:List Qv2} {keys:List Qv1} {x:Qv6} {rd:List Qv7} (h1:Qfi (([a,b]:List Qv6).getD i.toNat default) k want keys=x) (h2:Jx (([a,b]:List Qv6).getD i.toNat default) R (QiA (a,b,R)) k keys=rd):(⟨([a,b]:List Qv6).set i.toNat x,rd⟩:Qv8)=toW (Qf6 (a,b,R) k i want keys):=by
  subst h1; subst h2;rcases hi with q | q <;> subst q <;> rfl
theorem Quz {a b:Qv6} {R:List Qv7} {i:Int} (hi:i=0 ∨ i=1) {k:Int} {want:List Qv2} {keys:List Qv1} (h1:Qfi (([a,b]:List Qv6).getD i.toNat default) k want keys=([a,b]:List Qv6).getD i.toNat default) (h2:Jx (([a,b]:List Qv6).getD i.toNat default) R (QiA (a,b,R)) k keys=R):(⟨[a,b],R⟩:Qv8)=toW (Qf6 (a,b,R) k i want keys):=by
  rw [← Qr4 hi h1 h2];rcases hi with q | q <;> subst q <;> rfl
theorem Qmw {s:W3} (h:Gs s) {e:Qv9} (he:e.Keys.length≤1048576):QU (toW s) e=some (toW (Qf6 s e.Kind e.At e.Want e.Keys)):=by
  have hrd:=Qvk h;obtain ⟨a,b,R⟩:=s;have t:Two a b:=h.two;have hl:R.length≤12:=h.len;have hrd:JK ⟨[a,b],R⟩=some (QiA (a,b,R)):=hrd;refine Qev ?_;show Post (QU ⟨[a,b],R⟩ e) _;unfold QU;rw [Jy,Qb];refine .ite (fun c=>.ret ?_) fun c=>?_
  · have c:inR e.At 0 1=false:=by simpa using c
    have c:¬ (0≤e.At∧e.At≤1):=fun q=>by rw [JV.2 q] at c; cases c
    unfold Qf6;rw [if_neg (by omega),if_neg (by omega)]
    rfl
  have hr:0≤e.At∧e.At < 2:=by
    have:inR e.At 0 1=true:=by simpa using c
    have:=JV.1 this;omega
  have hi:e.At=0 ∨ e.At=1:=by omega
  have so:=Qkk t hr;have hg:(0:Int)≤e.At∧e.At < ((([a,b]:List Qv6).length:Nat):Int):=by simp; omega
  have yes:=@Qr4 a b R e.At hi e.Kind e.Want e.Keys;have no:=@Quz a b R e.At hi e.Kind e.Want e.Keys;generalize toW (Qf6 (a,b,R) e.Kind e.At e.Want e.Keys)=Z at *;generalize (([a,b]:List Qv6).getD e.At.toNat default)=X at *;refine .gd hg (.bd (Q:=fun r=>match r with | .inl d=>(⟨d.1,d.2⟩:Qv8)=Z | .inr d=>(⟨d.1,d.2.2.1⟩:Qv8)=Z) ?_ fun r hr=>?_)
  · refine .ite (fun k=>?_) fun n1=>.ite (fun k=>?_) fun n5=>.ite (fun k=>?_) fun n6=>.ite (fun k=>?_) fun n7=>.ite (fun k=>?_) fun n8=>.ite (fun k=>?_) fun n9=>.ret (no (by simp at n1 n5 n6 n7 n8 n9; simp [Qfi,n1,n5,n6,n7,n8,n9]) (by simp at n1 n9; simp [Jx,n1,n9]))
    · have k:e.Kind=1:=by simpa using k
      refine .ite (fun u=>.bd (Q:=fun x=>x=Qkp X.End) ⟨_,QtC so.eo,rfl⟩ fun x hx=>.gd hg ?_) fun u=>.ret (no (by simp [Qfi,k,u]) (by simp [Jx,k,u]));subst hx;refine .ite (fun w=>?_) fun w=>.ret (yes (by simp [Qfi,k,u]) (by simp [Jx,k,w]));exact .bd (Q:=fun x=>x=⟨([a,b]:List Qv6).set e.At.toNat ⟨X.Up,(Qkp X.End).1⟩,Qs2 R (Qkp X.End).2.1⟩) ⟨_,Quy _ hl _,rfl⟩ fun x hx=>.ret (by rw [hx]; exact yes (by simp [Qfi,k,u]) (by simp [Jx,k,u,w]))
    · have k:e.Kind=5:=by simpa using k
      refine .ite (fun u=>?_) fun u=>.ret (no (by simp [Qfi,k,u]) (by simp [Jx,k]));have L:=(ZE so.eo).mono (m:=1048576) (by decide);exact .bd (Q:=fun x=>x=Qd8 X.End) ⟨_,Qn9 L.k L.t,(QhT so.eo).1⟩ fun x hx=>.gd hg (.ret (by rw [hx]; exact yes (by simp [Qfi,k,u]) (by simp [Jx,k])))
    · have k:e.Kind=6:=by simpa using k
      have d:=Qms so.eo;refine .bd (Q:=fun x=>x=Qqh X.End) ⟨_,?_,rfl⟩ fun x hx=>.gd hg (.ret (by rw [hx]; exact yes (by simp [Qfi,k]) (by simp [Jx,k])));unfold QaJ;refine (congrArg (fun m=>bd m _) (Qc7 ((ZE d).mono (by decide)))).trans ?_;rw [Qb]
    · have k:e.Kind=7:=by simpa using k
      refine .ite (fun u=>?_) fun u=>.ret (no (by simp at u; simp [Qfi,k,u]) (by simp [Jx,k]));have u:X.Up=false:=by simpa using u
      exact .bd (Q:=fun x=>x=Qaw X.End) ⟨_,Qoo so.eo (so.down u).heard,rfl⟩ fun x hx=>.gd hg (.ret (by rw [hx]; exact yes (by simp [Qfi,k,u]) (by simp [Jx,k])))
    · have k:e.Kind=8:=by simpa using k
      rw [Qgm,Qb];refine .ite (fun w=>?_) fun w=>.ret (no (by simp [Qfi,k,w]) (by simp [Jx,k]));have:=(Qd6.1 w).len;rw [Qf2 (by omega),Qb];refine .gd hg ?_;rw [Qb];exact .ret (yes (by simp [Qfi,k,w]) (by simp [Jx,k]))
    · have k:e.Kind=9:=by simpa using k
      rw [Qka he,Qb];refine .ite (fun w=>?_) fun w=>.ret (no (by simp [Qfi,k,w]) (by simp [Jx,k,w]));rw [hrd,Qb];unfold ZL;rw [Qn (by omega),Qb];refine .gd hg ?_;rw [Qb];exact .ret (yes (by simp [Qfi,k,w]) (by simp [Jx,k,w]))
  · cases r with
    | inl d=>exact .ret hr
    | inr d=>exact .ret hr
theorem QlB {s:W3} (h:Gs s):Gs (Qs3 s):=by
  obtain ⟨a,b,R⟩:=s
  induction R generalizing a b with
  | nil=>exact h
  | cons x r ih=>exact ih _ _ (Qmv (i:=0) h (by simp))
theorem Qs5 {s:W3} (h:Gs s):Gs (Qlz s):=Qew (Qew (QlB (Qew (Qew (QlB h) _ _ _ _) _ _ _ _)) _ _ _ _) _ _ _ _
theorem Qhh {s:W3} (h:Gs s) (n:Nat):Gs (Qgv n s):=by
  induction n generalizing s with
  | zero=>exact h
  | succ n ih=>exact ih (Qs5 h)
theorem QtE {β:Type} {s:W3} (h:Gs s) {step:List Qv6 × List Qv7→Option ((List Qv6 × List Qv7) ⊕ β)} {d:List Qv6→β} (h1:∀ t:W3,Gs t→t.2.2 ≠ []→step ([t.1,t.2.1],t.2.2)=some (.inl ([(QhV t 0).1,(QhV t 0).2.1],(QhV t 0).2.2))) (h2:∀ S,step (S,[])=some (.inr (d S))):lp step ([s.1,s.2.1],s.2.2)=some (d [(Qs3 s).1,(Qs3 s).2.1]):=by
  obtain ⟨a,b,R⟩:=s
  induction R generalizing a b with
  | nil=>exact Qdu (h2 _)
  | cons x r ih =>
    rw [Qg6 (h1 (a,b,x :: r) h (by simp))];exact ih _ _ (Qmv (i:=0) h (by simp))
theorem QuA {s:W3} (h:Gs s):ZC (toW s)=some (toW (Qlz s)):=by
  have h1:=QlB h;have h2:=Qew h1 1 0 [] [];have h3:=Qew h2 1 1 [] [];have h4:=QlB h3;have h5:=Qew h4 5 0 [] [];unfold ZC;refine (QjU (QtE h (d:=fun S=>(S.length,0,S,[])) (fun t ht hn=>?_) fun S=>?_)).trans ?_
  · have:0 < t.2.2.length:=List.length_pos_iff.2 hn;dsimp only;rw [if_pos (by simp; omega)];refine (QjU (Qos ht (at_:=0) ⟨by decide,by omega⟩)).trans rfl
  · rfl
  refine (QjU (Qmw (s:=Qs3 s) h1 (e:=⟨1,0,[],[],Qly⟩) (Nat.zero_le _))).trans ?_;refine (QjU (Qmw h2 (e:=⟨1,1,[],[],Qly⟩) (Nat.zero_le _))).trans ?_;refine (QjU (QtE h3 (d:=fun S=>(S,S.length,[],0)) (fun t ht hn=>?_) fun S=>?_)).trans ?_
  · have:0 < t.2.2.length:=List.length_pos_iff.2 hn;dsimp only;rw [if_pos (by simp; omega)];refine (QjU (Qos ht (at_:=0) ⟨by decide,by omega⟩)).trans rfl
  · rfl
  refine (QjU (Qmw (s:=Qs3 (Qf6 (Qf6 (Qs3 s) 1 0 [] []) 1 1 [] [])) h4 (e:=⟨5,0,[],[],Qly⟩) (Nat.zero_le _))).trans ?_;refine (QjU (Qmw h5 (e:=⟨5,1,[],[],Qly⟩) (Nat.zero_le _))).trans ?_
  rfl
def roundsN (n:Int):Nat:=(if n < 0 then 0 else if 100 < n then 100 else n).toNat
theorem Qvm {s:W3} (h:Gs s) (n:Int):ZM (toW s) n=some (toW (Qgv (roundsN n) s)):=by
  have ok:=Qev ((Qmr (Qr1 h)).mono fun x hx=>hx);have hN:roundsN n=(if n < 0 then 0 else if 100 < n then 100 else n).toNat:=rfl;unfold ZM;rw [ok,Qb,if_neg (by decide),QrP (Qr1 h),Qb];refine Qev (.bd (Q:=fun x=>(⟨x.2.2.1,x.2.2.2⟩:Qv8)=toW (Qgv (roundsN n) s)) (.lp (fun t=>∃ i:Nat,i≤roundsN n∧(⟨t.1,t.2.1⟩:Qv8)=toW (Qgv i s)∧t.2.2=i) (fun t=>(100 - t.2.2).toNat) ⟨0,Nat.zero_le _,rfl,rfl⟩ fun t ⟨i,i0,i1,i2⟩=>.ite (fun c=>?_) fun c=>.ret ?_) fun x hx=>?_)
  · simp only [Bool.and_eq_true,decide_eq_true_eq] at c;rw [i1,QuA (Qhh h i),Qb,← QlA];refine .ret ⟨⟨i+1,?_,rfl,?_⟩,?_⟩
    · rw [hN]; split
      · omega
      · split <;> omega
    · dsimp only; rw [wrap_i64 (by omega) (by omega)]; omega
    · dsimp only; rw [wrap_i64 (by omega) (by omega)]; omega
  · have:i=roundsN n:=by
      simp only [Bool.and_eq_true,decide_eq_true_eq] at c;rw [hN] at i0 ⊢;split at i0
      · split <;> omega
      · split at i0 <;> (repeat' split) <;> omega
    rw [← this]; exact i1
  · rw [hx,Qiw (Qr1 (Qhh h _)),Qb];exact .ret rfl
end Go.Proofs.YtjgjdobkahdgfaaGreat
