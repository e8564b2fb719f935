/-
  Plain Lean: worlds in plain functions: what speaking, bringing, steps and calm rounds make of them; the reference's functions compute these.
-/
import Derived.Test.YtjgjdobkahdgfaaGreatKz5
import Derived.Test.YtjgjdobkahdgfaaGreatHelJz
import Derived.Test.YtjgjdobkahdgfaaGreatHelEz
set_option linter.all false
namespace Go.Proofs.YtjgjdobkahdgfaaGreat
open Go Go.Ab
set_option maxHeartbeats 1000000
set_option maxRecDepth 100000
abbrev W3:=Qxc × Qxc × List Qxd
def toW (s:W3):Qxe:=⟨[s.1,s.2.1],s.2.2⟩
structure Gs (s:W3):Prop where
  two:Two s.1 s.2.1
  len:s.2.2.length≤12
  words:∀ x ∈ s.2.2,Z4 x=true
theorem QkK {s:W3} (h:Gs s):Gw (toW s):=⟨⟨_,_,rfl,h.two⟩,h.len,h.words⟩
theorem Qwr {s:W3} (h:Gw (toW s)):Gs s:=by
  obtain ⟨⟨a,b,hs,t⟩,hl,hw⟩:=h;obtain ⟨e1,e2⟩:=List.cons.inj hs;obtain ⟨e2,_⟩:=List.cons.inj e2;exact ⟨by rw [e1,e2]; exact t,hl,hw⟩
theorem QdF {α:Type} {m:Option α} {x:α} (h:Post m fun y=>y=x):m=some x:=by
  obtain ⟨y,e,rfl⟩:=h;exact e
def QO:Qxd:=⟨0,0,0,0,0,0,0,0,⟨0,⟨0,0,0,0⟩⟩,0⟩
def QdS (e:Qxb):Qw9 :=
  match Z3 (fun i=>!Qbd idE e.Want (e.Told.getD i default)) e.Told.length with
  | some i=>⟨2,⟨(e.Told.getD i default).Addr,(e.Told.getD i default).Len,0,0⟩⟩
  | none=>match Z3 (fun i=>QhY e.Told (e.Want.getD i default)) e.Want.length with
    | some i=>⟨1,e.Want.getD i default⟩
    | none=>if e.All=true then ⟨0,⟨0,0,0,0⟩⟩ else ⟨3,⟨0,0,0,0⟩⟩
theorem QoG {e:Qxb} (ht:To e.Told) (hw:To e.Want):QaM e=some (QdS e):=by
  have l1:=ht.len;have l2:=hw.len;unfold QaM QdS;rw [QpE (by omega) (by omega) (QeV hw),Qb,QpF (by omega) (by omega) (QeV ht),Qb]
  cases Z3 (fun i=>!Qbd idE e.Want (e.Told.getD i default)) e.Told.length with
  | some i=>rfl
  | none =>
    dsimp only;rw [if_neg (by decide)]
    cases Z3 (fun i=>QhY e.Told (e.Want.getD i default)) e.Want.length with
    | some i=>rfl
    | none =>
      dsimp only;rw [if_neg (by decide)]
      cases e.All <;> rfl
def QcU (e:Qxb):Int × Qw9:=if e.Up=true∧e.Under.Kind=0 then (if (QdS e).Kind > 0 then e.Num+1 else e.Num,QdS e) else (e.Num,e.Under)
def Qws (e:Qxb):Qw7:=e.Keys.getD (e.Keys.length - 1) default
def QtT (e:Qxb):Qxd:=⟨e.Name,e.Peer,(Qws e).Id,e.Boot,e.PeerBoot,e.Turn+1,(QcU e).1,e.Got,(QcU e).2,0⟩
def QbZ (e:Qxb):Qxd:={ QtT e with Sum:=Qq5 (Qws e).Secret (QtT e) }
def Zx (e:Qxb):Qxb:={ e with Turn:=e.Turn+1,Num:=(QcU e).1,Under:=(QcU e).2 }
def QfC (e:Qxb):Qxb × Qxd × Bool :=
  if e.Boot=1000 then (e,QO,false)
  else if e.Turn=1000000 then (ZH e,QO,false)
  else (Zx e,QbZ e,true)
theorem Qjk {e:Qxb} (h:Eo e):1≤e.Keys.length∧e.Keys.length≤3:=by
  have hk:=h.keys;simp only [Qa5,Bool.and_eq_true,Jv] at hk;omega
theorem QsC {e:Qxb} (h:Eo e):JR e=some (QfC e):=by
  have L:=(ZT h).mono (m:=1048576) (by decide);have hok:=Jw.2 h;have hb:=h.boot;have ht:=h.turn;have hn:=h.num;unfold JR QfC;rw [Qlu L.k L.t,hok,Qb,if_neg (by decide),Qet L,Qb]
  by_cases cb:e.Boot=1000
  · rw [if_pos (by simpa using cb),if_pos cb]; rfl
  rw [if_neg (by simpa using cb),if_neg cb]
  by_cases ct:e.Turn=1000000
  · have hl:=Qkk (Qkl h) h.heard;rw [if_pos (by simpa using ct),if_pos ct,Qon L.h hb,Qb,Qet ((ZT hl).mono (by decide)),Qb]; rfl
  rw [if_neg (by simpa using ct),if_neg ct];have kp:=Qjk h;have e0:((e.Keys.length:Nat):Int) - 1=((e.Keys.length - 1:Nat):Int):=by omega
  rw [wrap_i64 (n:=e.Turn+1) (by omega) (by omega),wrap_i64 (n:=((e.Keys.length:Nat):Int) - 1) (by omega) (by omega),e0,Int.toNat_natCast];refine (QjY (x:=((QcU e).1,(QcU e).2.Kind,(QcU e).2.Entry.Addr,(QcU e).2.Entry.Len,(QcU e).2.Entry.Cost,(QcU e).2.Entry.Label)) ?_).trans ?_
  · unfold QcU
    by_cases c:e.Up=true∧e.Under.Kind=0
    · rw [if_pos (by simpa using c),if_pos c,QoG (e:={ e with Turn:=e.Turn+1 }) h.told h.want,Qb];have en:QdS { e with Turn:=e.Turn+1 }=QdS e:=rfl;rw [en,wrap_i64 (n:=e.Num+1) (by omega) (by omega)]
      by_cases k:(QdS e).Kind > 0
      · rw [if_pos (by simpa using k),if_pos k]
      · rw [if_neg (by simpa using k),if_neg k]
    · rw [if_neg (by simpa using c),if_neg c]
  · dsimp only;rw [Qp (by omega),Qpw,Qb]
    rfl
def QmH (rd:List Qxd) (x:Qxd):List Qxd:=if rd.length < 12 then rd ++ [x] else rd
def QcV (s:Qxc) (x:Qxd):Qxc:=if s.Up=true∧s.End.Name=x.To then ⟨s.Up,helloHear s.End x⟩ else s
def QvU (rd:List Qxd) (i:Nat):List Qxd:=rd.take i ++ rd.drop (i+1)
def QcF (s:W3) (i:Nat):W3:=(QcV s.1 (s.2.2.getD i default),QcV s.2.1 (s.2.2.getD i default),QvU s.2.2 i)
def QgM (s:W3):W3:=(s.2.2.foldl QcV s.1,s.2.2.foldl QcV s.2.1,[])
def Qhh (s:W3):List Qxd:=s.2.2.filter fun w=>QN s.1.End.Keys w || QN s.2.1.End.Keys w
def QaT (x:Qxc) (k:Int) (want:List Qw8) (keys:List Qw7):Qxc :=
  if k=1 then (if x.Up=true then ⟨x.Up,(QfC x.End).1⟩ else x)
  else if k=5 then (if x.Up=true then ⟨x.Up,Qce x.End⟩ else x)
  else if k=6 then ⟨false,QqV x.End⟩
  else if k=7 then (if x.Up=true then x else ⟨true,ZH x.End⟩)
  else if k=8 then (if JY want=true then ⟨x.Up,{ x.End with Want:=want }⟩ else x)
  else if k=9 then (if Qa5 keys=true then ⟨x.Up,{ x.End with Keys:=keys }⟩ else x)
  else x
def Q9 (x:Qxc) (rd r9:List Qxd) (k:Int) (keys:List Qw7):List Qxd :=
  if k=1 then (if x.Up=true∧(QfC x.End).2.2=true then QmH rd (QfC x.End).2.1 else rd)
  else if k=9∧Qa5 keys=true then r9 else rd
def QaQ (s:W3) (k at_:Int) (want:List Qw8) (keys:List Qw7):W3 :=
  if at_=0 then (QaT s.1 k want keys,s.2.1,Q9 s.1 s.2.2 (Qhh s) k keys)
  else if at_=1 then (s.1,QaT s.2.1 k want keys,Q9 s.2.1 s.2.2 (Qhh s) k keys)
  else s
def Qi1 (s:W3) (k at_:Int):W3 :=
  if 0≤at_∧at_ < (s.2.2.length:Int) then
    (if k=2 then QcF s at_.toNat else if k=3 then (s.1,s.2.1,QmH s.2.2 (s.2.2.getD at_.toNat default)) else (s.1,s.2.1,QvU s.2.2 at_.toNat))
  else s
def Qh0 (s:W3) (x:Qxd):W3 :=
  if Z4 x=true∧QN s.1.End.Keys x=false∧QN s.2.1.End.Keys x=false then (s.1,s.2.1,QmH s.2.2 x) else s
def ZI (s:W3) (e:Qxf):W3 :=
  if e.Kind=2 ∨ e.Kind=3 ∨ e.Kind=4 then Qi1 s e.Kind e.At
  else if e.Kind=10 then Qh0 s e.Word else QaQ s e.Kind e.At e.Want e.Keys
def Qau (s:W3):W3:=QaQ (QaQ (QgM (QaQ (QaQ (QgM s) 1 0 [] []) 1 1 [] [])) 5 0 [] []) 5 1 [] []
def calmG:Nat→W3→W3
  | 0,s=>s
  | n+1,s=>calmG n (Qau s)
theorem Qny (m n:Nat) (s:W3):calmG (m+n) s=calmG n (calmG m s):=by
  induction m generalizing s with
  | zero=>rw [Nat.zero_add]; rfl
  | succ m ih=>rw [Nat.succ_add]; exact ih _
theorem QlB (n:Nat) (s:W3):calmG (n+1) s=Qau (calmG n s):=Qny n 1 s
theorem QeW {s:Qxc} {x:Qxd} (c:s.Up=true∧s.End.Name=x.To):QcV s x=⟨s.Up,helloHear s.End x⟩:=if_pos c
theorem Qdw {s:Qxc} {x:Qxd} (c:¬ (s.Up=true∧s.End.Name=x.To)):QcV s x=s:=if_neg c
theorem Qmv {s:W3} (h:Gs s) {at_:Int} (ha:0≤at_∧at_ < (s.2.2.length:Int)):Jp (toW s) at_=some (toW (QcF s at_.toNat)):=by
  obtain ⟨a,b,R⟩:=s;have t:Two a b:=h.two;have hl:R.length≤12:=h.len;have ha:0≤at_∧at_ < (R.length:Int):=ha;refine QdF ?_;unfold Jp toW QcF;dsimp only;rw [Qsq ha hl,wrap_i64 (n:=at_+1) (by omega) (by omega)];generalize R.getD at_.toNat default=X;refine .gd ha (.gd (by omega) (.gd (by omega) (.gd (by omega) (.gd ?_ (.bd (Q:=fun x=>x.2=[QcV a X,QcV b X]) (.lp (fun s=>(s.1=[a,b]∧s.2=0) ∨ (s.1=[QcV a X,b]∧s.2=1) ∨ (s.1=[QcV a X,QcV b X]∧s.2=2)) (fun s=>(2 - s.2).toNat) (.inl ⟨rfl,rfl⟩) fun s hs=>?_) fun x hx=>.ret (by rw [hx]; rfl))))))
  · simp [QU]; omega
  · obtain ⟨ys,i⟩:=s;rcases hs with ⟨e1,e2⟩ | ⟨e1,e2⟩ | ⟨e1,e2⟩ <;> dsimp only at e1 e2 <;> subst e1 <;> subst e2
    · refine .ite (fun _=>.gd (by simp) (.gd (fun _=>by simp) (.ite (fun c2=>.gd (by simp) ?_) fun c2=>.ret ⟨.inr (.inl ⟨?_,rfl⟩),by show (2 - IntKind.i64.wrap ((0:Int)+1)).toNat < (2 - (0:Int)).toNat; decide⟩))) fun c=>absurd (by rfl) c
      · have c2:(a.Up && (a.End.Name == X.To))=true:=c2;refine .bd (Q:=fun x=>x=helloHear a.End X) ⟨_,Qow ((ZT t.a.eo).mono (by decide)) _,rfl⟩ fun x hx=>.gd (by simp) (.ret ⟨.inr (.inl ⟨?_,rfl⟩),by show (2 - IntKind.i64.wrap ((0:Int)+1)).toNat < (2 - (0:Int)).toNat; decide⟩);rw [hx,QeW (by simpa using c2)]; rfl
      · have c2:¬ (a.Up && (a.End.Name == X.To))=true:=c2;show [a,b]=[QcV a X,b];rw [Qdw (by simpa using c2)]
    · refine .ite (fun _=>.gd (by simp) (.gd (fun _=>by simp) (.ite (fun c2=>.gd (by simp) ?_) fun c2=>.ret ⟨.inr (.inr ⟨?_,rfl⟩),by show (2 - IntKind.i64.wrap ((1:Int)+1)).toNat < (2 - (1:Int)).toNat; decide⟩))) fun c=>absurd (by rfl) c
      · have c2:(b.Up && (b.End.Name == X.To))=true:=c2;refine .bd (Q:=fun x=>x=helloHear b.End X) ⟨_,Qow ((ZT t.b.eo).mono (by decide)) _,rfl⟩ fun x hx=>.gd (by simp) (.ret ⟨.inr (.inr ⟨?_,rfl⟩),by show (2 - IntKind.i64.wrap ((1:Int)+1)).toNat < (2 - (1:Int)).toNat; decide⟩);rw [hx,QeW (s:=b) (by simpa using c2)]; rfl
      · have c2:¬ (b.Up && (b.End.Name == X.To))=true:=c2;show [QcV a X,b]=[QcV a X,QcV b X];rw [Qdw (s:=b) (by simpa using c2)]
    · refine .ite (fun c=>absurd c (by simp)) fun _=>.ret rfl
theorem Qgp {s:W3} (h:Gs s) {i:Nat} (hi:i < s.2.2.length):Gs (QcF s i):=by
  obtain ⟨x,e,h2,_⟩:=QqU (QkK h) (at_:=i) ⟨by omega,by show (i:Int) < (s.2.2.length:Int); omega⟩;rw [Qmv h ⟨by omega,by omega⟩,Int.toNat_natCast] at e;obtain rfl:=Option.some.inj e;exact Qwr h2
theorem Quy {s:W3} (h:Gs s):Qaj (toW s)=some (Qhh s):=by
  obtain ⟨a,b,R⟩:=s;have t:Two a b:=h.two;have hl:R.length≤12:=h.len;have ka:=(ZT t.a.eo).k;have kb:=(ZT t.b.eo).k;refine QdF ?_;unfold Qaj toW Qhh;dsimp only;refine .bd (Q:=fun x=>x.2=R.filter fun w=>QN a.End.Keys w || QN b.End.Keys w) (.lp (fun s=>0≤s.2∧s.2≤(R.length:Int)∧(s.1.length:Int)≤s.2∧s.1=(R.take s.2.toNat).filter fun w=>QN a.End.Keys w || QN b.End.Keys w) (fun s=>(R.length - s.2).toNat) ⟨Int.le_refl _,by dsimp only; omega,Int.le_refl _,rfl⟩ fun s ⟨s0,s1,s2,s3⟩=>?_) fun x hx=>.ret hx;refine .ite (fun c1=>?_) fun c1=>.ret ?_
  · have c1:s.2 < (R.length:Int):=by simpa using c1
    rw [wrap_i64 (n:=s.2+1) (by omega) (by omega)];have tk:R.take (s.2+1).toNat=R.take s.2.toNat ++ [R.getD s.2.toNat default]:=by
      rw [show (s.2+1).toNat=s.2.toNat+1 by omega,List.take_succ,List.getD_eq_getElem?_getD,List.getElem?_eq_getElem (by omega)]
      rfl
    refine .gd (by simp) (.gd (by omega) (.bd (Q:=fun x=>x=QN a.End.Keys (R.getD s.2.toNat default)) ⟨_,QhV (by exact Nat.le_trans ka (by decide)) _,rfl⟩ fun x7 h7=>.gd (fun _=>by simp) (.gd (fun _=>by omega) (.bd (Q:=fun x=>(x7 || x)=(QN a.End.Keys (R.getD s.2.toNat default) || QN b.End.Keys (R.getD s.2.toNat default))) (.gcall (fun _=>⟨_,QhV (by exact Nat.le_trans kb (by decide)) _,by rw [h7]; rfl⟩) fun c=>?_) fun x10 h10=>.ite (fun c=>.gd (by omega) (.gd ?_ (.ret ⟨⟨?_,?_,?_,?_⟩,?_⟩))) fun c=>.ret ⟨⟨?_,?_,?_,?_⟩,?_⟩))))
    · have c:x7=true:=by cases x7; exact absurd rfl c; rfl
      rw [← h7,c]; rfl
    · simp; omega
    · dsimp only; omega
    · dsimp only; omega
    · simp; omega
    · dsimp only;rw [tk,List.filter_append,← s3,List.filter_cons_of_pos (by rw [← h10]; exact c)]; rfl
    · dsimp only; omega
    · dsimp only; omega
    · dsimp only; omega
    · dsimp only; omega
    · dsimp only;rw [tk,List.filter_append,← s3,List.filter_cons_of_neg (by rw [← h10]; exact c)]; simp
    · dsimp only; omega
  · have c1:¬ s.2 < (R.length:Int):=by simpa using c1
    rw [s3,List.take_of_length_le (by omega)]
theorem QsD (S:List Qxc) {R:List Qxd} (hl:R.length≤12) (x:Qxd):JQ ⟨S,R⟩ x=some ⟨S,QmH R x⟩:=by
  unfold JQ QmH;dsimp only
  by_cases c:R.length < 12
  · rw [if_pos (by simp; omega),if_pos c,Qp (by simp; omega)]
  · rw [if_neg (by simp; omega),if_neg c]
theorem Qvv (S:List Qxc) {R:List Qxd} (hl:R.length≤12) (x:Qxd):Qb0 ⟨S,R⟩ x=some ⟨S,QmH R x⟩:=QsD S hl x
theorem Qvw {s:W3} (h:Gs s) (x:Qxd):JQ (toW s) x=some (toW (s.1,s.2.1,QmH s.2.2 x)):=QsD _ h.len x
theorem Quz {s:W3} (h:Gs s) {x:Qxd} (hx:Z4 x=true):Gs (s.1,s.2.1,QmH s.2.2 x):=by
  obtain ⟨y,e,h2⟩:=QtP (QkK h) hx;rw [Qvw h] at e;obtain rfl:=Option.some.inj e;exact Qwr h2
theorem Qjl {e:Qxb} (h:Eo e):Eo (QfC e).1∧((QfC e).1.Name=e.Name∧(QfC e).1.Peer=e.Peer)∧((QfC e).2.2=true→Z4 (QfC e).2.1=true):=by
  obtain ⟨x,e1,q⟩:=Qso h;rw [QsC h] at e1;obtain rfl:=Option.some.inj e1;exact q
theorem QlC {x:Qxc} (h:So x) (k:Int) (want:List Qw8) (keys:List Qw7):So (QaT x k want keys)∧(QaT x k want keys).End.Name=x.End.Name∧(QaT x k want keys).End.Peer=x.End.Peer:=by
  unfold QaT;split
  · split
    · next u =>
      obtain ⟨q1,q2,_⟩:=Qjl h.eo;exact ⟨⟨q1,fun q=>absurd (q.symm.trans u) (by decide)⟩,q2⟩
    · exact ⟨h,rfl,rfl⟩
  split
  · split
    · next u=>exact ⟨⟨Qse h.eo,fun q=>absurd (q.symm.trans u) (by decide)⟩,(Qkn h.eo).2⟩
    · exact ⟨h,rfl,rfl⟩
  split
  · exact ⟨⟨Qmt h.eo,fun _=>⟨rfl,rfl,rfl,rfl,rfl,rfl,rfl,rfl,rfl,rfl⟩⟩,rfl,rfl⟩
  split
  · split
    · exact ⟨h,rfl,rfl⟩
    · exact ⟨⟨Qkk (Qkl h.eo) h.eo.heard,fun q=>by cases q⟩,rfl,rfl⟩
  split
  · split
    · next c =>
      refine ⟨⟨{ h.eo with want:=Qej.1 c },fun q=>?_⟩,rfl,rfl⟩;have d:=h.down q;exact ⟨d.turn,d.pboot,d.up,d.num,d.kind,d.told,d.all,d.got,d.full,d.heard⟩
    · exact ⟨h,rfl,rfl⟩
  split
  · split
    · next c =>
      refine ⟨⟨{ h.eo with keys:=c },fun q=>?_⟩,rfl,rfl⟩;have d:=h.down q;exact ⟨d.turn,d.pboot,d.up,d.num,d.kind,d.told,d.all,d.got,d.full,d.heard⟩
    · exact ⟨h,rfl,rfl⟩
  · exact ⟨h,rfl,rfl⟩
theorem QpJ {x:Qxc} (h:So x) {rd r9:List Qxd} (h1:rd.length≤12∧∀ y ∈ rd,Z4 y=true) (h2:r9.length≤12∧∀ y ∈ r9,Z4 y=true) (k:Int) (keys:List Qw7):(Q9 x rd r9 k keys).length≤12∧∀ y ∈ Q9 x rd r9 k keys,Z4 y=true:=by
  unfold Q9;split
  · split
    · next c =>
      have w:=(Qjl h.eo).2.2 c.2;unfold QmH;split
      · refine ⟨by simp; omega,fun y hy=>?_⟩;rcases List.mem_append.1 hy with q | q
        · exact h1.2 y q
        · rw [List.mem_singleton.1 q]; exact w
      · exact h1
    · exact h1
  · split
    · exact h2
    · exact h1
theorem QoH {s:W3} (h:Gs s):(Qhh s).length≤12∧∀ y ∈ Qhh s,Z4 y=true:=⟨Nat.le_trans (List.length_filter_le _ _) h.len,fun y hy=>h.words y (List.mem_filter.1 hy).1⟩
theorem QcW {s:W3} (h:Gs s) (k at_:Int) (want:List Qw8) (keys:List Qw7):Gs (QaQ s k at_ want keys):=by
  unfold QaQ;split
  · obtain ⟨q1,q2,q3⟩:=QlC h.two.a k want keys;have r:=QpJ h.two.a ⟨h.len,h.words⟩ (QoH h) k keys;exact ⟨⟨q1,h.two.b,q2.trans h.two.ab,h.two.ba.trans q3.symm⟩,r.1,r.2⟩
  split
  · obtain ⟨q1,q2,q3⟩:=QlC h.two.b k want keys;have r:=QpJ h.two.b ⟨h.len,h.words⟩ (QoH h) k keys;exact ⟨⟨h.two.a,q1,h.two.ab.trans q3.symm,q2.trans h.two.ba⟩,r.1,r.2⟩
  · exact h
theorem QoI {a b:Qxc} {R:List Qxd} {i:Int} (hi:i=0 ∨ i=1) {k:Int} {want:List Qw8} {keys:List Qw7} {x:Qxc} {rd:List Qxd} (h1:QaT (([a,b]:List Qxc).getD i.toNat default) k want keys=x) (h2:Q9 (([a,b]:List Qxc).getD i.toNat default) R (Qhh (a,b,R)) k keys=rd):(⟨([a,b]:List Qxc).set i.toNat x,rd⟩:Qxe)=toW (QaQ (a,b,R) k i want keys):=by
  subst h1; subst h2;rcases hi with q | q <;> subst q <;> rfl
theorem QsE {a b:Qxc} {R:List Qxd} {i:Int} (hi:i=0 ∨ i=1) {k:Int} {want:List Qw8} {keys:List Qw7} (h1:QaT (([a,b]:List Qxc).getD i.toNat default) k want keys=([a,b]:List Qxc).getD i.toNat default) (h2:Q9 (([a,b]:List Qxc).getD i.toNat default) R (Qhh (a,b,R)) k keys=R):(⟨[a,b],R⟩:Qxe)=toW (QaQ (a,b,R) k i want keys):=by
  rw [← QoI hi h1 h2];rcases hi with q | q <;> subst q <;> rfl
theorem Qwt {s:W3} (h:Gs s) {e:Qxf} (he:e.Keys.length≤1048576):Qbu (toW s) e=some (toW (QaQ s e.Kind e.At e.Want e.Keys)):=by
  have hrd:=Quy h;obtain ⟨a,b,R⟩:=s;have t:Two a b:=h.two;have hl:R.length≤12:=h.len;have hrd:Qaj ⟨[a,b],R⟩=some (Qhh (a,b,R)):=hrd;refine QdF ?_;show Post (Qbu ⟨[a,b],R⟩ e) _;unfold Qbu;rw [JL,Qb];refine .ite (fun c=>.ret ?_) fun c=>?_
  · have c:inR e.At 0 1=false:=by simpa using c
    have c:¬ (0≤e.At∧e.At≤1):=fun q=>by rw [Jv.2 q] at c; cases c
    unfold QaQ;rw [if_neg (by omega),if_neg (by omega)]
    rfl
  have hr:0≤e.At∧e.At < 2:=by
    have:inR e.At 0 1=true:=by simpa using c
    have:=Jv.1 this;omega
  have hi:e.At=0 ∨ e.At=1:=by omega
  have so:=QoD t hr;have hg:(0:Int)≤e.At∧e.At < ((([a,b]:List Qxc).length:Nat):Int):=by simp; omega
  have yes:=@QoI a b R e.At hi e.Kind e.Want e.Keys;have no:=@QsE a b R e.At hi e.Kind e.Want e.Keys;generalize toW (QaQ (a,b,R) e.Kind e.At e.Want e.Keys)=Z at *;generalize (([a,b]:List Qxc).getD e.At.toNat default)=X at *;refine .gd hg (.bd (Q:=fun r=>match r with | .inl d=>(⟨d.1,d.2⟩:Qxe)=Z | .inr d=>(⟨d.2.2,d.1⟩:Qxe)=Z) ?_ fun r hr=>?_)
  · refine .ite (fun k=>?_) fun n1=>.ite (fun k=>?_) fun n5=>.ite (fun k=>?_) fun n6=>.ite (fun k=>?_) fun n7=>.ite (fun k=>?_) fun n8=>.ite (fun k=>?_) fun n9=>.ret (no (by simp at n1 n5 n6 n7 n8 n9; simp [QaT,n1,n5,n6,n7,n8,n9]) (by simp at n1 n9; simp [Q9,n1,n9]))
    · have k:e.Kind=1:=by simpa using k
      refine .ite (fun u=>.bd (Q:=fun x=>x=QfC X.End) ⟨_,QsC so.eo,rfl⟩ fun x hx=>.gd hg ?_) fun u=>.ret (no (by simp [QaT,k,u]) (by simp [Q9,k,u]));subst hx;refine .ite (fun w=>?_) fun w=>.ret (yes (by simp [QaT,k,u]) (by simp [Q9,k,w]));exact .bd (Q:=fun x=>x=⟨([a,b]:List Qxc).set e.At.toNat ⟨X.Up,(QfC X.End).1⟩,QmH R (QfC X.End).2.1⟩) ⟨_,QsD _ hl _,rfl⟩ fun x hx=>.ret (by rw [hx]; exact yes (by simp [QaT,k,u]) (by simp [Q9,k,u,w]))
    · have k:e.Kind=5:=by simpa using k
      refine .ite (fun u=>?_) fun u=>.ret (no (by simp [QaT,k,u]) (by simp [Q9,k]));have L:=(ZT so.eo).mono (m:=1048576) (by decide);exact .bd (Q:=fun x=>x=Qce X.End) ⟨_,Qr2 L.k L.t,(Qkn so.eo).1⟩ fun x hx=>.gd hg (.ret (by rw [hx]; exact yes (by simp [QaT,k,u]) (by simp [Q9,k])))
    · have k:e.Kind=6:=by simpa using k
      have d:=Qmt so.eo;refine .bd (Q:=fun x=>x=QqV X.End) ⟨_,?_,rfl⟩ fun x hx=>.gd hg (.ret (by rw [hx]; exact yes (by simp [QaT,k]) (by simp [Q9,k])));unfold Qbt;refine (congrArg (fun m=>bd m _) (Qet ((ZT d).mono (by decide)))).trans ?_;rw [Qb]
    · have k:e.Kind=7:=by simpa using k
      refine .ite (fun u=>?_) fun u=>.ret (no (by simp at u; simp [QaT,k,u]) (by simp [Q9,k]));have u:X.Up=false:=by simpa using u
      exact .bd (Q:=fun x=>x=ZH X.End) ⟨_,Qsr so.eo (so.down u).heard,rfl⟩ fun x hx=>.gd hg (.ret (by rw [hx]; exact yes (by simp [QaT,k,u]) (by simp [Q9,k])))
    · have k:e.Kind=8:=by simpa using k
      rw [QhR,Qb];refine .ite (fun w=>?_) fun w=>.ret (no (by simp [QaT,k,w]) (by simp [Q9,k]));have:=(Qej.1 w).len;rw [QhT (by omega),Qb];refine .gd hg ?_;rw [Qb];exact .ret (yes (by simp [QaT,k,w]) (by simp [Q9,k]))
    · have k:e.Kind=9:=by simpa using k
      rw [Qmj he,Qb];refine .ite (fun w=>?_) fun w=>.ret (no (by simp [QaT,k,w]) (by simp [Q9,k,w]));rw [hrd,Qb];unfold JO;rw [Qp (by omega),Qb];refine .gd hg ?_;rw [Qb];exact .ret (yes (by simp [QaT,k,w]) (by simp [Q9,k,w]))
  · cases r with
    | inl d=>exact .ret hr
    | inr d=>exact .ret hr
theorem Qmw {s:W3} (h:Gs s) {e:Qxf} (he:e.Keys.length≤1048576):Ze (toW s) e=some (toW (QaQ s e.Kind e.At e.Want e.Keys)):=by
  have hrd:=Quy h;obtain ⟨a,b,R⟩:=s;have t:Two a b:=h.two;have hl:R.length≤12:=h.len;have hrd:Qaj ⟨[a,b],R⟩=some (Qhh (a,b,R)):=hrd;refine QdF ?_;show Post (Ze ⟨[a,b],R⟩ e) _;unfold Ze;rw [JL,Qb];refine .ite (fun c=>.ret ?_) fun c=>?_
  · have c:inR e.At 0 1=false:=by simpa using c
    have c:¬ (0≤e.At∧e.At≤1):=fun q=>by rw [Jv.2 q] at c; cases c
    unfold QaQ;rw [if_neg (by omega),if_neg (by omega)]
    rfl
  have hr:0≤e.At∧e.At < 2:=by
    have:inR e.At 0 1=true:=by simpa using c
    have:=Jv.1 this;omega
  have hi:e.At=0 ∨ e.At=1:=by omega
  have so:=QoD t hr;have hg:(0:Int)≤e.At∧e.At < ((([a,b]:List Qxc).length:Nat):Int):=by simp; omega
  have yes:=@QoI a b R e.At hi e.Kind e.Want e.Keys;have no:=@QsE a b R e.At hi e.Kind e.Want e.Keys;generalize toW (QaQ (a,b,R) e.Kind e.At e.Want e.Keys)=Z at *;generalize (([a,b]:List Qxc).getD e.At.toNat default)=X at *;refine .gd hg (.bd (Q:=fun r=>match r with | .inl d=>(⟨d.1,d.2⟩:Qxe)=Z | .inr d=>(⟨d.1,d.2.2.1⟩:Qxe)=Z) ?_ fun r hr=>?_)
  · refine .ite (fun k=>?_) fun n1=>.ite (fun k=>?_) fun n5=>.ite (fun k=>?_) fun n6=>.ite (fun k=>?_) fun n7=>.ite (fun k=>?_) fun n8=>.ite (fun k=>?_) fun n9=>.ret (no (by simp at n1 n5 n6 n7 n8 n9; simp [QaT,n1,n5,n6,n7,n8,n9]) (by simp at n1 n9; simp [Q9,n1,n9]))
    · have k:e.Kind=1:=by simpa using k
      refine .ite (fun u=>.bd (Q:=fun x=>x=QfC X.End) ⟨_,QsC so.eo,rfl⟩ fun x hx=>.gd hg ?_) fun u=>.ret (no (by simp [QaT,k,u]) (by simp [Q9,k,u]));subst hx;refine .ite (fun w=>?_) fun w=>.ret (yes (by simp [QaT,k,u]) (by simp [Q9,k,w]));exact .bd (Q:=fun x=>x=⟨([a,b]:List Qxc).set e.At.toNat ⟨X.Up,(QfC X.End).1⟩,QmH R (QfC X.End).2.1⟩) ⟨_,Qvv _ hl _,rfl⟩ fun x hx=>.ret (by rw [hx]; exact yes (by simp [QaT,k,u]) (by simp [Q9,k,u,w]))
    · have k:e.Kind=5:=by simpa using k
      refine .ite (fun u=>?_) fun u=>.ret (no (by simp [QaT,k,u]) (by simp [Q9,k]));have L:=(ZT so.eo).mono (m:=1048576) (by decide);exact .bd (Q:=fun x=>x=Qce X.End) ⟨_,Qr2 L.k L.t,(Qkn so.eo).1⟩ fun x hx=>.gd hg (.ret (by rw [hx]; exact yes (by simp [QaT,k,u]) (by simp [Q9,k])))
    · have k:e.Kind=6:=by simpa using k
      have d:=Qmt so.eo;refine .bd (Q:=fun x=>x=QqV X.End) ⟨_,?_,rfl⟩ fun x hx=>.gd hg (.ret (by rw [hx]; exact yes (by simp [QaT,k]) (by simp [Q9,k])));unfold Qbt;refine (congrArg (fun m=>bd m _) (Qet ((ZT d).mono (by decide)))).trans ?_;rw [Qb]
    · have k:e.Kind=7:=by simpa using k
      refine .ite (fun u=>?_) fun u=>.ret (no (by simp at u; simp [QaT,k,u]) (by simp [Q9,k]));have u:X.Up=false:=by simpa using u
      exact .bd (Q:=fun x=>x=ZH X.End) ⟨_,Qsr so.eo (so.down u).heard,rfl⟩ fun x hx=>.gd hg (.ret (by rw [hx]; exact yes (by simp [QaT,k,u]) (by simp [Q9,k])))
    · have k:e.Kind=8:=by simpa using k
      rw [QhR,Qb];refine .ite (fun w=>?_) fun w=>.ret (no (by simp [QaT,k,w]) (by simp [Q9,k]));have:=(Qej.1 w).len;rw [QhT (by omega),Qb];refine .gd hg ?_;rw [Qb];exact .ret (yes (by simp [QaT,k,w]) (by simp [Q9,k]))
    · have k:e.Kind=9:=by simpa using k
      rw [Qmj he,Qb];refine .ite (fun w=>?_) fun w=>.ret (no (by simp [QaT,k,w]) (by simp [Q9,k,w]));rw [hrd,Qb];unfold JO;rw [Qp (by omega),Qb];refine .gd hg ?_;rw [Qb];exact .ret (yes (by simp [QaT,k,w]) (by simp [Q9,k,w]))
  · cases r with
    | inl d=>exact .ret hr
    | inr d=>exact .ret hr
theorem Qwu {s:W3} (h:Gs s) (i:Nat):Gs (s.1,s.2.1,QvU s.2.2 i):=by
  have:=h.len;exact ⟨h.two,by unfold QvU; simp; omega,Qnu h.words⟩
theorem Qwv {s:W3} (h:Gs s) (e:Qxf):Qci (toW s) e=some (toW (Qi1 s e.Kind e.At)):=by
  have hl:=h.len;have hL:(toW s).Radio=s.2.2:=rfl;refine QdF ?_;unfold Qci Qi1;rw [hL,JL,Qb,wrap_i64 (n:=((s.2.2.length:Nat):Int) - 1) (by omega) (by omega)];refine .ite (fun c=>?_) fun c=>?_
  · have c:inR e.At 0 (((s.2.2.length:Nat):Int) - 1)=false:=by simpa using c
    have c:¬ (0≤e.At∧e.At≤(s.2.2.length:Int) - 1):=fun q=>by rw [Jv.2 q] at c; cases c
    rw [if_neg (by omega)];exact .ret rfl
  have hi:0≤e.At∧e.At < (s.2.2.length:Int):=by
    have:inR e.At 0 (((s.2.2.length:Nat):Int) - 1)=true:=by simpa using c
    have:=Jv.1 this;omega
  rw [if_pos hi];refine .ite (fun k=>?_) fun n=>.ite (fun k=>?_) fun n2=>?_
  · rw [if_pos (by simpa using k)];exact .bd (Q:=fun x=>x=_) ⟨_,Qmv h hi,rfl⟩ fun x hx=>.ret hx
  · rw [if_neg (by simpa using n),if_pos (by simpa using k)];exact .gd hi (.bd (Q:=fun x=>x=_) ⟨_,Qvw h _,rfl⟩ fun x hx=>.ret hx)
  · rw [if_neg (by simpa using n),if_neg (by simpa using n2),Qsq hi hl,wrap_i64 (n:=e.At+1) (by omega) (by omega)];refine .gd (by omega) (.gd (by omega) (.gd (by omega) (.gd ?_ (.ret rfl))));simp [QU]; omega
theorem Qvx {s:W3} (h:Gs s) (k at_:Int):Gs (Qi1 s k at_):=by
  unfold Qi1;split
  · next c =>
    split
    · exact Qgp h (by omega)
    split
    · exact Quz h (h.words _ (Zj (by omega)))
    · exact Qwu h _
  · exact h
theorem Qvy {s:W3} (h:Gs s) (x:Qxd):QbM (toW s) x=some (toW (Qh0 s x)):=by
  have ka:=(ZT h.two.a.eo).k;have kb:=(ZT h.two.b.eo).k;have e0:((toW s).Sides.getD 0 default)=s.1:=rfl;have e1:((toW s).Sides.getD 1 default)=s.2.1:=rfl;have hS:(toW s).Sides.length=2:=rfl;unfold QbM Qh0;rw [Qop,Qb,hS,e0,e1,Qp (fun _=>by decide),QhV (by omega),QhV (by omega)]
  cases Z4 x
  · simp [gcall,gd]
  · cases QN s.1.End.Keys x
    · cases QN s.2.1.End.Keys x
      · simp [gcall,gd,Qvw h]
      · simp [gcall,gd]
    · simp [gcall,gd]
theorem QtU {s:W3} (h:Gs s) (x:Qxd):Gs (Qh0 s x):=by
  unfold Qh0;split
  · next c=>exact Quz h c.1
  · exact h
theorem Qvz {s:W3} (h:Gs s) (e:Qxf):Gs (ZI s e):=by
  unfold ZI;split
  · exact Qvx h _ _
  split
  · exact QtU h _
  · exact QcW h _ _ _ _
theorem Qww {s:W3} (h:Gs s) {e:Qxf} (he:e.Keys.length≤1048576):Qbk (toW s) e=some (toW (ZI s e)):=by
  have ok:=QdF ((QoC (QkK h)).mono fun x hx=>hx);unfold Qbk;rw [ok,Qb,if_neg (by decide),Qms (QkK h),Qb];have hd:Qdh (toW s) e=some (toW (ZI s e)):=by
    unfold Qdh ZI;have h1:(if (e.Kind == 2)=true then some (e.Kind == 2) else if (e.Kind == 3)=true then some (e.Kind == 3) else some (e.Kind == 4))=some (decide (e.Kind=2 ∨ e.Kind=3 ∨ e.Kind=4)):=by
      by_cases c2:e.Kind=2
      · simp [c2]
      by_cases c3:e.Kind=3
      · simp [c3]
      by_cases c4:e.Kind=4
      · simp [c4]
      simp [c2,c3,c4]
    rw [h1,Qb]
    by_cases c:e.Kind=2 ∨ e.Kind=3 ∨ e.Kind=4
    · rw [if_pos (by simpa using c),if_pos c,Qwv h,Qb]
    · rw [if_neg (by simpa using c),if_neg c]
      by_cases c10:e.Kind=10
      · rw [if_pos (by simpa using c10),if_pos c10,Qvy h,Qb]
      · rw [if_neg (by simpa using c10),if_neg c10,Qwt h he,Qb]
  rw [hd,Qb,Qms (QkK (Qvz h e)),Qb]
theorem QiN {s:W3} (h:Gs s):Gs (QgM s):=by
  obtain ⟨a,b,R⟩:=s
  induction R generalizing a b with
  | nil=>exact h
  | cons x r ih=>exact ih _ _ (Qgp (i:=0) h (by simp))
theorem QtV {s:W3} (h:Gs s):Gs (Qau s):=QcW (QcW (QiN (QcW (QcW (QiN h) _ _ _ _) _ _ _ _)) _ _ _ _) _ _ _ _
theorem QoJ {s:W3} (h:Gs s) (n:Nat):Gs (calmG n s):=by
  induction n generalizing s with
  | zero=>exact h
  | succ n ih=>exact ih (QtV h)
theorem QuA {β:Type} {s:W3} (h:Gs s) {step:List Qxc × List Qxd→Option ((List Qxc × List Qxd) ⊕ β)} {d:List Qxc→β} (h1:∀ t:W3,Gs t→t.2.2 ≠ []→step ([t.1,t.2.1],t.2.2)=some (.inl ([(QcF t 0).1,(QcF t 0).2.1],(QcF t 0).2.2))) (h2:∀ S,step (S,[])=some (.inr (d S))):lp step ([s.1,s.2.1],s.2.2)=some (d [(QgM s).1,(QgM s).2.1]):=by
  obtain ⟨a,b,R⟩:=s
  induction R generalizing a b with
  | nil=>exact QdC (h2 _)
  | cons x r ih =>
    rw [Qg3 (h1 (a,b,x :: r) h (by simp))];exact ih _ _ (Qgp (i:=0) h (by simp))
theorem QvA {s:W3} (h:Gs s):JB (toW s)=some (toW (Qau s)):=by
  have h1:=QiN h;have h2:=QcW h1 1 0 [] [];have h3:=QcW h2 1 1 [] [];have h4:=QiN h3;have h5:=QcW h4 5 0 [] [];unfold JB;refine (QjY (QuA h (d:=fun S=>(S.length,0,S,[])) (fun t ht hn=>?_) fun S=>?_)).trans ?_
  · have:0 < t.2.2.length:=List.length_pos_iff.2 hn;dsimp only;rw [if_pos (by simp; omega)];refine (QjY (Qmv ht (at_:=0) ⟨by decide,by omega⟩)).trans rfl
  · rfl
  refine (QjY (Qmw (s:=QgM s) h1 (e:=⟨1,0,[],[],QO⟩) (Nat.zero_le _))).trans ?_;refine (QjY (Qmw h2 (e:=⟨1,1,[],[],QO⟩) (Nat.zero_le _))).trans ?_;refine (QjY (QuA h3 (d:=fun S=>(S,S.length,[],0)) (fun t ht hn=>?_) fun S=>?_)).trans ?_
  · have:0 < t.2.2.length:=List.length_pos_iff.2 hn;dsimp only;rw [if_pos (by simp; omega)];refine (QjY (Qmv ht (at_:=0) ⟨by decide,by omega⟩)).trans rfl
  · rfl
  refine (QjY (Qmw (s:=QgM (QaQ (QaQ (QgM s) 1 0 [] []) 1 1 [] [])) h4 (e:=⟨5,0,[],[],QO⟩) (Nat.zero_le _))).trans ?_;refine (QjY (Qmw h5 (e:=⟨5,1,[],[],QO⟩) (Nat.zero_le _))).trans ?_
  rfl
def roundsN (n:Int):Nat:=(if n < 0 then 0 else if 100 < n then 100 else n).toNat
theorem Qwx {s:W3} (h:Gs s) (n:Int):Qbi (toW s) n=some (toW (calmG (roundsN n) s)):=by
  have ok:=QdF ((QoC (QkK h)).mono fun x hx=>hx);have hN:roundsN n=(if n < 0 then 0 else if 100 < n then 100 else n).toNat:=rfl;unfold Qbi;rw [ok,Qb,if_neg (by decide),Qvq (QkK h),Qb];refine QdF (.bd (Q:=fun x=>(⟨x.2.2.1,x.2.2.2⟩:Qxe)=toW (calmG (roundsN n) s)) (.lp (fun t=>∃ i:Nat,i≤roundsN n∧(⟨t.1,t.2.1⟩:Qxe)=toW (calmG i s)∧t.2.2=i) (fun t=>(100 - t.2.2).toNat) ⟨0,Nat.zero_le _,rfl,rfl⟩ fun t ⟨i,i0,i1,i2⟩=>.ite (fun c=>?_) fun c=>.ret ?_) fun x hx=>?_)
  · simp only [Bool.and_eq_true,decide_eq_true_eq] at c;rw [i1,QvA (QoJ h i),Qb,← QlB];refine .ret ⟨⟨i+1,?_,rfl,?_⟩,?_⟩
    · rw [hN]; split
      · omega
      · split <;> omega
    · dsimp only; rw [wrap_i64 (by omega) (by omega)]; omega
    · dsimp only; rw [wrap_i64 (by omega) (by omega)]; omega
  · have:i=roundsN n:=by
      simp only [Bool.and_eq_true,decide_eq_true_eq] at c;rw [hN] at i0 ⊢;split at i0
      · split <;> omega
      · split at i0 <;> (repeat' split) <;> omega
    rw [← this]; exact i1
  · rw [hx,Qms (QkK (QoJ h _)),Qb];exact .ret rfl
end Go.Proofs.YtjgjdobkahdgfaaGreat
