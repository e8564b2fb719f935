/-
  Plain Lean: worlds in plain functions: what speaking, bringing, steps and calm rounds make of them; the reference's functions compute these.
-/
import Derived.Test.YtjgjdobkahdgfaaGreatKz5
import Derived.Test.YtjgjdobkahdgfaaGreatHelJz
import Derived.Test.YtjgjdobkahdgfaaGreatHelEz
set_option linter.all false
namespace Go.Proofs.YtjgjdobkahdgfaaGreat
open Go Go.Ab
set_option maxHeartbeats 1000000
set_option maxRecDepth 100000
abbrev W3:=Qxq × Qxq × List Qxr
def toW (s:W3):Qxs:=⟨[s.1,s.2.1],s.2.2⟩
structure Gs (s:W3):Prop where
  two:Two s.1 s.2.1
  len:s.2.2.length≤12
  words:∀ x ∈ s.2.2,Jb x=true
theorem QkY {s:W3} (h:Gs s):Gw (toW s):=⟨⟨_,_,rfl,h.two⟩,h.len,h.words⟩
theorem QwE {s:W3} (h:Gw (toW s)):Gs s:=by
  obtain ⟨⟨a,b,hs,t⟩,hl,hw⟩:=h;obtain ⟨e1,e2⟩:=List.cons.inj hs;obtain ⟨e2,_⟩:=List.cons.inj e2;exact ⟨by rw [e1,e2]; exact t,hl,hw⟩
theorem Qc6 {α:Type} {m:Option α} {x:α} (h:Post m fun y=>y=x):m=some x:=by
  obtain ⟨y,e,rfl⟩:=h;exact e
def Zj:Qxr:=⟨0,0,0,0,0,0,0,0,⟨0,⟨0,0,0,0⟩⟩,0⟩
def Qd1 (e:Qxp):Qxn :=
  match Z7 (fun i=>!Qbk idE e.Want (e.Told.getD i default)) e.Told.length with
  | some i=>⟨2,⟨(e.Told.getD i default).Addr,(e.Told.getD i default).Len,0,0⟩⟩
  | none=>match Z7 (fun i=>Qh7 e.Told (e.Want.getD i default)) e.Want.length with
    | some i=>⟨1,e.Want.getD i default⟩
    | none=>if e.All=true then ⟨0,⟨0,0,0,0⟩⟩ else ⟨3,⟨0,0,0,0⟩⟩
theorem QoV {e:Qxp} (ht:To e.Told) (hw:To e.Want):QaU e=some (Qd1 e):=by
  have l1:=ht.len;have l2:=hw.len;unfold QaU Qd1;rw [QpT (by omega) (by omega) (QeC hw),Qb,QpU (by omega) (by omega) (QeC ht),Qb]
  cases Z7 (fun i=>!Qbk idE e.Want (e.Told.getD i default)) e.Told.length with
  | some i=>rfl
  | none =>
    dsimp only;rw [if_neg (by decide)]
    cases Z7 (fun i=>Qh7 e.Told (e.Want.getD i default)) e.Want.length with
    | some i=>rfl
    | none =>
      dsimp only;rw [if_neg (by decide)]
      cases e.All <;> rfl
def Qc7 (e:Qxp):Int × Qxn:=if e.Up=true∧e.Under.Kind=0 then (if (Qd1 e).Kind > 0 then e.Num+1 else e.Num,Qd1 e) else (e.Num,e.Under)
def QwF (e:Qxp):Qxl:=e.Keys.getD (e.Keys.length - 1) default
def Qt4 (e:Qxp):Qxr:=⟨e.Name,e.Peer,(QwF e).Id,e.Boot,e.PeerBoot,e.Turn+1,(Qc7 e).1,e.Got,(Qc7 e).2,0⟩
def Qb7 (e:Qxp):Qxr:={ Qt4 e with Sum:=Qrl (QwF e).Secret (Qt4 e) }
def ZC (e:Qxp):Qxp:={ e with Turn:=e.Turn+1,Num:=(Qc7 e).1,Under:=(Qc7 e).2 }
def QfP (e:Qxp):Qxp × Qxr × Bool :=
  if e.Boot=1000 then (e,Zj,false)
  else if e.Turn=1000000 then (ZM e,Zj,false)
  else (ZC e,Qb7 e,true)
theorem Qjv {e:Qxp} (h:Eo e):1≤e.Keys.length∧e.Keys.length≤3:=by
  have hk:=h.keys;simp only [Qbb,Bool.and_eq_true,Jz] at hk;omega
theorem QsO {e:Qxp} (h:Eo e):JW e=some (QfP e):=by
  have L:=(ZX h).mono (m:=1048576) (by decide);have hok:=JI.2 h;have hb:=h.boot;have ht:=h.turn;have hn:=h.num;unfold JW QfP;rw [QlH L.k L.t,hok,Qb,if_neg (by decide),QeD L,Qb]
  by_cases cb:e.Boot=1000
  · rw [if_pos (by simpa using cb),if_pos cb]; rfl
  rw [if_neg (by simpa using cb),if_neg cb]
  by_cases ct:e.Turn=1000000
  · have hl:=Qkw (Qkx h) h.heard;rw [if_pos (by simpa using ct),if_pos ct,QoB L.h hb,Qb,QeD ((ZX hl).mono (by decide)),Qb]; rfl
  rw [if_neg (by simpa using ct),if_neg ct];have kp:=Qjv h;have e0:((e.Keys.length:Nat):Int) - 1=((e.Keys.length - 1:Nat):Int):=by omega
  rw [wrap_i64 (n:=e.Turn+1) (by omega) (by omega),wrap_i64 (n:=((e.Keys.length:Nat):Int) - 1) (by omega) (by omega),e0,Int.toNat_natCast];refine (Qka (x:=((Qc7 e).1,(Qc7 e).2.Kind,(Qc7 e).2.Entry.Addr,(Qc7 e).2.Entry.Len,(Qc7 e).2.Entry.Cost,(Qc7 e).2.Entry.Label)) ?_).trans ?_
  · unfold Qc7
    by_cases c:e.Up=true∧e.Under.Kind=0
    · rw [if_pos (by simpa using c),if_pos c,QoV (e:={ e with Turn:=e.Turn+1 }) h.told h.want,Qb];have en:Qd1 { e with Turn:=e.Turn+1 }=Qd1 e:=rfl;rw [en,wrap_i64 (n:=e.Num+1) (by omega) (by omega)]
      by_cases k:(Qd1 e).Kind > 0
      · rw [if_pos (by simpa using k),if_pos k]
      · rw [if_neg (by simpa using k),if_neg k]
    · rw [if_neg (by simpa using c),if_neg c]
  · dsimp only;rw [Qp (by omega),QpL,Qb]
    rfl
def QmX (rd:List Qxr) (x:Qxr):List Qxr:=if rd.length < 12 then rd ++ [x] else rd
def Qc8 (s:Qxq) (x:Qxr):Qxq:=if s.Up=true∧s.End.Name=x.To then ⟨s.Up,helloHear s.End x⟩ else s
def Qv7 (rd:List Qxr) (i:Nat):List Qxr:=rd.take i ++ rd.drop (i+1)
def QcO (s:W3) (i:Nat):W3:=(Qc8 s.1 (s.2.2.getD i default),Qc8 s.2.1 (s.2.2.getD i default),Qv7 s.2.2 i)
def QgX (s:W3):W3:=(s.2.2.foldl Qc8 s.1,s.2.2.foldl Qc8 s.2.1,[])
def Qht (s:W3):List Qxr:=s.2.2.filter fun w=>QP s.1.End.Keys w || QP s.2.1.End.Keys w
def Qbc (x:Qxq) (k:Int) (want:List Qxm) (keys:List Qxl):Qxq :=
  if k=1 then (if x.Up=true then ⟨x.Up,(QfP x.End).1⟩ else x)
  else if k=5 then (if x.Up=true then ⟨x.Up,Qcl x.End⟩ else x)
  else if k=6 then ⟨false,Qrb x.End⟩
  else if k=7 then (if x.Up=true then x else ⟨true,ZM x.End⟩)
  else if k=8 then (if J1 want=true then ⟨x.Up,{ x.End with Want:=want }⟩ else x)
  else if k=9 then (if Qbb keys=true then ⟨x.Up,{ x.End with Keys:=keys }⟩ else x)
  else x
def Zd (x:Qxq) (rd r9:List Qxr) (k:Int) (keys:List Qxl):List Qxr :=
  if k=1 then (if x.Up=true∧(QfP x.End).2.2=true then QmX rd (QfP x.End).2.1 else rd)
  else if k=9∧Qbb keys=true then r9 else rd
def QaY (s:W3) (k at_:Int) (want:List Qxm) (keys:List Qxl):W3 :=
  if at_=0 then (Qbc s.1 k want keys,s.2.1,Zd s.1 s.2.2 (Qht s) k keys)
  else if at_=1 then (s.1,Qbc s.2.1 k want keys,Zd s.2.1 s.2.2 (Qht s) k keys)
  else s
def Qjb (s:W3) (k at_:Int):W3 :=
  if 0≤at_∧at_ < (s.2.2.length:Int) then
    (if k=2 then QcO s at_.toNat else if k=3 then (s.1,s.2.1,QmX s.2.2 (s.2.2.getD at_.toNat default)) else (s.1,s.2.1,Qv7 s.2.2 at_.toNat))
  else s
def Qh8 (s:W3) (x:Qxr):W3 :=
  if Jb x=true∧QP s.1.End.Keys x=false∧QP s.2.1.End.Keys x=false then (s.1,s.2.1,QmX s.2.2 x) else s
def Jr (s:W3) (e:Qxt):W3 :=
  if e.Kind=2 ∨ e.Kind=3 ∨ e.Kind=4 then Qjb s e.Kind e.At
  else if e.Kind=10 then Qh8 s e.Word else QaY s e.Kind e.At e.Want e.Keys
def QaR (s:W3):W3:=QaY (QaY (QgX (QaY (QaY (QgX s) 1 0 [] []) 1 1 [] [])) 5 0 [] []) 5 1 [] []
def calmG:Nat→W3→W3
  | 0,s=>s
  | n+1,s=>calmG n (QaR s)
theorem QkB (m n:Nat) (s:W3):calmG (m+n) s=calmG n (calmG m s):=by
  induction m generalizing s with
  | zero=>rw [Nat.zero_add]; rfl
  | succ m ih=>rw [Nat.succ_add]; exact ih _
theorem QlO (n:Nat) (s:W3):calmG (n+1) s=QaR (calmG n s):=QkB n 1 s
theorem Qe6 {s:Qxq} {x:Qxr} (c:s.Up=true∧s.End.Name=x.To):Qc8 s x=⟨s.Up,helloHear s.End x⟩:=if_pos c
theorem QdH {s:Qxq} {x:Qxr} (c:¬ (s.Up=true∧s.End.Name=x.To)):Qc8 s x=s:=if_neg c
theorem QmK {s:W3} (h:Gs s) {at_:Int} (ha:0≤at_∧at_ < (s.2.2.length:Int)):Jv (toW s) at_=some (toW (QcO s at_.toNat)):=by
  obtain ⟨a,b,R⟩:=s;have t:Two a b:=h.two;have hl:R.length≤12:=h.len;have ha:0≤at_∧at_ < (R.length:Int):=ha;refine Qc6 ?_;unfold Jv toW QcO;dsimp only;rw [QsE ha hl,wrap_i64 (n:=at_+1) (by omega) (by omega)];generalize R.getD at_.toNat default=X;refine .gd ha (.gd (by omega) (.gd (by omega) (.gd (by omega) (.gd ?_ (.bd (Q:=fun x=>x.2=[Qc8 a X,Qc8 b X]) (.lp (fun s=>(s.1=[a,b]∧s.2=0) ∨ (s.1=[Qc8 a X,b]∧s.2=1) ∨ (s.1=[Qc8 a X,Qc8 b X]∧s.2=2)) (fun s=>(2 - s.2).toNat) (.inl ⟨rfl,rfl⟩) fun s hs=>?_) fun x hx=>.ret (by rw [hx]; rfl))))))
  · simp [QW]; omega
  · obtain ⟨ys,i⟩:=s;rcases hs with ⟨e1,e2⟩ | ⟨e1,e2⟩ | ⟨e1,e2⟩ <;> dsimp only at e1 e2 <;> subst e1 <;> subst e2
    · refine .ite (fun _=>.gd (by simp) (.gd (fun _=>by simp) (.ite (fun c2=>.gd (by simp) ?_) fun c2=>.ret ⟨.inr (.inl ⟨?_,rfl⟩),by show (2 - IntKind.i64.wrap ((0:Int)+1)).toNat < (2 - (0:Int)).toNat; decide⟩))) fun c=>absurd (by rfl) c
      · have c2:(a.Up && (a.End.Name == X.To))=true:=c2;refine .bd (Q:=fun x=>x=helloHear a.End X) ⟨_,QoL ((ZX t.a.eo).mono (by decide)) _,rfl⟩ fun x hx=>.gd (by simp) (.ret ⟨.inr (.inl ⟨?_,rfl⟩),by show (2 - IntKind.i64.wrap ((0:Int)+1)).toNat < (2 - (0:Int)).toNat; decide⟩);rw [hx,Qe6 (by simpa using c2)]; rfl
      · have c2:¬ (a.Up && (a.End.Name == X.To))=true:=c2;show [a,b]=[Qc8 a X,b];rw [QdH (by simpa using c2)]
    · refine .ite (fun _=>.gd (by simp) (.gd (fun _=>by simp) (.ite (fun c2=>.gd (by simp) ?_) fun c2=>.ret ⟨.inr (.inr ⟨?_,rfl⟩),by show (2 - IntKind.i64.wrap ((1:Int)+1)).toNat < (2 - (1:Int)).toNat; decide⟩))) fun c=>absurd (by rfl) c
      · have c2:(b.Up && (b.End.Name == X.To))=true:=c2;refine .bd (Q:=fun x=>x=helloHear b.End X) ⟨_,QoL ((ZX t.b.eo).mono (by decide)) _,rfl⟩ fun x hx=>.gd (by simp) (.ret ⟨.inr (.inr ⟨?_,rfl⟩),by show (2 - IntKind.i64.wrap ((1:Int)+1)).toNat < (2 - (1:Int)).toNat; decide⟩);rw [hx,Qe6 (s:=b) (by simpa using c2)]; rfl
      · have c2:¬ (b.Up && (b.End.Name == X.To))=true:=c2;show [Qc8 a X,b]=[Qc8 a X,Qc8 b X];rw [QdH (s:=b) (by simpa using c2)]
    · refine .ite (fun c=>absurd c (by simp)) fun _=>.ret rfl
theorem QgA {s:W3} (h:Gs s) {i:Nat} (hi:i < s.2.2.length):Gs (QcO s i):=by
  obtain ⟨x,e,h2,_⟩:=Qra (QkY h) (at_:=i) ⟨by omega,by show (i:Int) < (s.2.2.length:Int); omega⟩;rw [QmK h ⟨by omega,by omega⟩,Int.toNat_natCast] at e;obtain rfl:=Option.some.inj e;exact QwE h2
theorem QuI {s:W3} (h:Gs s):Qan (toW s)=some (Qht s):=by
  obtain ⟨a,b,R⟩:=s;have t:Two a b:=h.two;have hl:R.length≤12:=h.len;have ka:=(ZX t.a.eo).k;have kb:=(ZX t.b.eo).k;refine Qc6 ?_;unfold Qan toW Qht;dsimp only;refine .bd (Q:=fun x=>x.2=R.filter fun w=>QP a.End.Keys w || QP b.End.Keys w) (.lp (fun s=>0≤s.2∧s.2≤(R.length:Int)∧(s.1.length:Int)≤s.2∧s.1=(R.take s.2.toNat).filter fun w=>QP a.End.Keys w || QP b.End.Keys w) (fun s=>(R.length - s.2).toNat) ⟨Int.le_refl _,by dsimp only; omega,Int.le_refl _,rfl⟩ fun s ⟨s0,s1,s2,s3⟩=>?_) fun x hx=>.ret hx;refine .ite (fun c1=>?_) fun c1=>.ret ?_
  · have c1:s.2 < (R.length:Int):=by simpa using c1
    rw [wrap_i64 (n:=s.2+1) (by omega) (by omega)];have tk:R.take (s.2+1).toNat=R.take s.2.toNat ++ [R.getD s.2.toNat default]:=by
      rw [show (s.2+1).toNat=s.2.toNat+1 by omega,List.take_succ,List.getD_eq_getElem?_getD,List.getElem?_eq_getElem (by omega)]
      rfl
    refine .gd (by simp) (.gd (by omega) (.bd (Q:=fun x=>x=QP a.End.Keys (R.getD s.2.toNat default)) ⟨_,Qh4 (by exact Nat.le_trans ka (by decide)) _,rfl⟩ fun x7 h7=>.gd (fun _=>by simp) (.gd (fun _=>by omega) (.bd (Q:=fun x=>(x7 || x)=(QP a.End.Keys (R.getD s.2.toNat default) || QP b.End.Keys (R.getD s.2.toNat default))) (.gcall (fun _=>⟨_,Qh4 (by exact Nat.le_trans kb (by decide)) _,by rw [h7]; rfl⟩) fun c=>?_) fun x10 h10=>.ite (fun c=>.gd (by omega) (.gd ?_ (.ret ⟨⟨?_,?_,?_,?_⟩,?_⟩))) fun c=>.ret ⟨⟨?_,?_,?_,?_⟩,?_⟩))))
    · have c:x7=true:=by cases x7; exact absurd rfl c; rfl
      rw [← h7,c]; rfl
    · simp; omega
    · dsimp only; omega
    · dsimp only; omega
    · simp; omega
    · dsimp only;rw [tk,List.filter_append,← s3,List.filter_cons_of_pos (by rw [← h10]; exact c)]; rfl
    · dsimp only; omega
    · dsimp only; omega
    · dsimp only; omega
    · dsimp only; omega
    · dsimp only;rw [tk,List.filter_append,← s3,List.filter_cons_of_neg (by rw [← h10]; exact c)]; simp
    · dsimp only; omega
  · have c1:¬ s.2 < (R.length:Int):=by simpa using c1
    rw [s3,List.take_of_length_le (by omega)]
theorem QsP (S:List Qxq) {R:List Qxr} (hl:R.length≤12) (x:Qxr):JV ⟨S,R⟩ x=some ⟨S,QmX R x⟩:=by
  unfold JV QmX;dsimp only
  by_cases c:R.length < 12
  · rw [if_pos (by simp; omega),if_pos c,Qp (by simp; omega)]
  · rw [if_neg (by simp; omega),if_neg c]
theorem QvF (S:List Qxq) {R:List Qxr} (hl:R.length≤12) (x:Qxr):Qb8 ⟨S,R⟩ x=some ⟨S,QmX R x⟩:=QsP S hl x
theorem QvG {s:W3} (h:Gs s) (x:Qxr):JV (toW s) x=some (toW (s.1,s.2.1,QmX s.2.2 x)):=QsP _ h.len x
theorem QuJ {s:W3} (h:Gs s) {x:Qxr} (hx:Jb x=true):Gs (s.1,s.2.1,QmX s.2.2 x):=by
  obtain ⟨y,e,h2⟩:=Qt0 (QkY h) hx;rw [QvG h] at e;obtain rfl:=Option.some.inj e;exact QwE h2
theorem Qjw {e:Qxp} (h:Eo e):Eo (QfP e).1∧((QfP e).1.Name=e.Name∧(QfP e).1.Peer=e.Peer)∧((QfP e).2.2=true→Jb (QfP e).2.1=true):=by
  obtain ⟨x,e1,q⟩:=QsC h;rw [QsO h] at e1;obtain rfl:=Option.some.inj e1;exact q
theorem QlP {x:Qxq} (h:So x) (k:Int) (want:List Qxm) (keys:List Qxl):So (Qbc x k want keys)∧(Qbc x k want keys).End.Name=x.End.Name∧(Qbc x k want keys).End.Peer=x.End.Peer:=by
  unfold Qbc;split
  · split
    · next u =>
      obtain ⟨q1,q2,_⟩:=Qjw h.eo;exact ⟨⟨q1,fun q=>absurd (q.symm.trans u) (by decide)⟩,q2⟩
    · exact ⟨h,rfl,rfl⟩
  split
  · split
    · next u=>exact ⟨⟨Qss h.eo,fun q=>absurd (q.symm.trans u) (by decide)⟩,(Qkz h.eo).2⟩
    · exact ⟨h,rfl,rfl⟩
  split
  · exact ⟨⟨QmI h.eo,fun _=>⟨rfl,rfl,rfl,rfl,rfl,rfl,rfl,rfl,rfl,rfl⟩⟩,rfl,rfl⟩
  split
  · split
    · exact ⟨h,rfl,rfl⟩
    · exact ⟨⟨Qkw (Qkx h.eo) h.eo.heard,fun q=>by cases q⟩,rfl,rfl⟩
  split
  · split
    · next c =>
      refine ⟨⟨{ h.eo with want:=Qfz.1 c },fun q=>?_⟩,rfl,rfl⟩;have d:=h.down q;exact ⟨d.turn,d.pboot,d.up,d.num,d.kind,d.told,d.all,d.got,d.full,d.heard⟩
    · exact ⟨h,rfl,rfl⟩
  split
  · split
    · next c =>
      refine ⟨⟨{ h.eo with keys:=c },fun q=>?_⟩,rfl,rfl⟩;have d:=h.down q;exact ⟨d.turn,d.pboot,d.up,d.num,d.kind,d.told,d.all,d.got,d.full,d.heard⟩
    · exact ⟨h,rfl,rfl⟩
  · exact ⟨h,rfl,rfl⟩
theorem QpY {x:Qxq} (h:So x) {rd r9:List Qxr} (h1:rd.length≤12∧∀ y ∈ rd,Jb y=true) (h2:r9.length≤12∧∀ y ∈ r9,Jb y=true) (k:Int) (keys:List Qxl):(Zd x rd r9 k keys).length≤12∧∀ y ∈ Zd x rd r9 k keys,Jb y=true:=by
  unfold Zd;split
  · split
    · next c =>
      have w:=(Qjw h.eo).2.2 c.2;unfold QmX;split
      · refine ⟨by simp; omega,fun y hy=>?_⟩;rcases List.mem_append.1 hy with q | q
        · exact h1.2 y q
        · rw [List.mem_singleton.1 q]; exact w
      · exact h1
    · exact h1
  · split
    · exact h2
    · exact h1
theorem QoW {s:W3} (h:Gs s):(Qht s).length≤12∧∀ y ∈ Qht s,Jb y=true:=⟨Nat.le_trans (List.length_filter_le _ _) h.len,fun y hy=>h.words y (List.mem_filter.1 hy).1⟩
theorem Qc9 {s:W3} (h:Gs s) (k at_:Int) (want:List Qxm) (keys:List Qxl):Gs (QaY s k at_ want keys):=by
  unfold QaY;split
  · obtain ⟨q1,q2,q3⟩:=QlP h.two.a k want keys;have r:=QpY h.two.a ⟨h.len,h.words⟩ (QoW h) k keys;exact ⟨⟨q1,h.two.b,q2.trans h.two.ab,h.two.ba.trans q3.symm⟩,r.1,r.2⟩
  split
  · obtain ⟨q1,q2,q3⟩:=QlP h.two.b k want keys;have r:=QpY h.two.b ⟨h.len,h.words⟩ (QoW h) k keys;exact ⟨⟨h.two.a,q1,h.two.ab.trans q3.symm,q2.trans h.two.ba⟩,r.1,r.2⟩
  · exact h
theorem QoX {a b:Qxq} {R:List Qxr} {i:Int} (hi:i=0 ∨ i=1) {k:Int} {want:List Qxm} {keys:List Qxl} {x:Qxq} {rd:List Qxr} (h1:Qbc (([a,b]:List Qxq).getD i.toNat default) k want keys=x) (h2:Zd (([a,b]:List Qxq).getD i.toNat default) R (Qht (a,b,R)) k keys=rd):(⟨([a,b]:List Qxq).set i.toNat x,rd⟩:Qxs)=toW (QaY (a,b,R) k i want keys):=by
  subst h1; subst h2;rcases hi with q | q <;> subst q <;> rfl
theorem QsQ {a b:Qxq} {R:List Qxr} {i:Int} (hi:i=0 ∨ i=1) {k:Int} {want:List Qxm} {keys:List Qxl} (h1:Qbc (([a,b]:List Qxq).getD i.toNat default) k want keys=([a,b]:List Qxq).getD i.toNat default) (h2:Zd (([a,b]:List Qxq).getD i.toNat default) R (Qht (a,b,R)) k keys=R):(⟨[a,b],R⟩:Qxs)=toW (QaY (a,b,R) k i want keys):=by
  rw [← QoX hi h1 h2];rcases hi with q | q <;> subst q <;> rfl
theorem QwG {s:W3} (h:Gs s) {e:Qxt} (he:e.Keys.length≤1048576):QbC (toW s) e=some (toW (QaY s e.Kind e.At e.Want e.Keys)):=by
  have hrd:=QuI h;obtain ⟨a,b,R⟩:=s;have t:Two a b:=h.two;have hl:R.length≤12:=h.len;have hrd:Qan ⟨[a,b],R⟩=some (Qht (a,b,R)):=hrd;refine Qc6 ?_;show Post (QbC ⟨[a,b],R⟩ e) _;unfold QbC;rw [JQ,Qb];refine .ite (fun c=>.ret ?_) fun c=>?_
  · have c:inR e.At 0 1=false:=by simpa using c
    have c:¬ (0≤e.At∧e.At≤1):=fun q=>by rw [Jz.2 q] at c; cases c
    unfold QaY;rw [if_neg (by omega),if_neg (by omega)]
    rfl
  have hr:0≤e.At∧e.At < 2:=by
    have:inR e.At 0 1=true:=by simpa using c
    have:=Jz.1 this;omega
  have hi:e.At=0 ∨ e.At=1:=by omega
  have so:=QoS t hr;have hg:(0:Int)≤e.At∧e.At < ((([a,b]:List Qxq).length:Nat):Int):=by simp; omega
  have yes:=@QoX a b R e.At hi e.Kind e.Want e.Keys;have no:=@QsQ a b R e.At hi e.Kind e.Want e.Keys;generalize toW (QaY (a,b,R) e.Kind e.At e.Want e.Keys)=Z at *;generalize (([a,b]:List Qxq).getD e.At.toNat default)=X at *;refine .gd hg (.bd (Q:=fun r=>match r with | .inl d=>(⟨d.1,d.2⟩:Qxs)=Z | .inr d=>(⟨d.2.2,d.1⟩:Qxs)=Z) ?_ fun r hr=>?_)
  · refine .ite (fun k=>?_) fun n1=>.ite (fun k=>?_) fun n5=>.ite (fun k=>?_) fun n6=>.ite (fun k=>?_) fun n7=>.ite (fun k=>?_) fun n8=>.ite (fun k=>?_) fun n9=>.ret (no (by simp at n1 n5 n6 n7 n8 n9; simp [Qbc,n1,n5,n6,n7,n8,n9]) (by simp at n1 n9; simp [Zd,n1,n9]))
    · have k:e.Kind=1:=by simpa using k
      refine .ite (fun u=>.bd (Q:=fun x=>x=QfP X.End) ⟨_,QsO so.eo,rfl⟩ fun x hx=>.gd hg ?_) fun u=>.ret (no (by simp [Qbc,k,u]) (by simp [Zd,k,u]));subst hx;refine .ite (fun w=>?_) fun w=>.ret (yes (by simp [Qbc,k,u]) (by simp [Zd,k,w]));exact .bd (Q:=fun x=>x=⟨([a,b]:List Qxq).set e.At.toNat ⟨X.Up,(QfP X.End).1⟩,QmX R (QfP X.End).2.1⟩) ⟨_,QsP _ hl _,rfl⟩ fun x hx=>.ret (by rw [hx]; exact yes (by simp [Qbc,k,u]) (by simp [Zd,k,u,w]))
    · have k:e.Kind=5:=by simpa using k
      refine .ite (fun u=>?_) fun u=>.ret (no (by simp [Qbc,k,u]) (by simp [Zd,k]));have L:=(ZX so.eo).mono (m:=1048576) (by decide);exact .bd (Q:=fun x=>x=Qcl X.End) ⟨_,Qsh L.k L.t,(Qkz so.eo).1⟩ fun x hx=>.gd hg (.ret (by rw [hx]; exact yes (by simp [Qbc,k,u]) (by simp [Zd,k])))
    · have k:e.Kind=6:=by simpa using k
      have d:=QmI so.eo;refine .bd (Q:=fun x=>x=Qrb X.End) ⟨_,?_,rfl⟩ fun x hx=>.gd hg (.ret (by rw [hx]; exact yes (by simp [Qbc,k]) (by simp [Zd,k])));unfold QbB;refine (congrArg (fun m=>bd m _) (QeD ((ZX d).mono (by decide)))).trans ?_;rw [Qb]
    · have k:e.Kind=7:=by simpa using k
      refine .ite (fun u=>?_) fun u=>.ret (no (by simp at u; simp [Qbc,k,u]) (by simp [Zd,k]));have u:X.Up=false:=by simpa using u
      exact .bd (Q:=fun x=>x=ZM X.End) ⟨_,QsF so.eo (so.down u).heard,rfl⟩ fun x hx=>.gd hg (.ret (by rw [hx]; exact yes (by simp [Qbc,k,u]) (by simp [Zd,k])))
    · have k:e.Kind=8:=by simpa using k
      rw [Qh0,Qb];refine .ite (fun w=>?_) fun w=>.ret (no (by simp [Qbc,k,w]) (by simp [Zd,k]));have:=(Qfz.1 w).len;rw [Qh2 (by omega),Qb];refine .gd hg ?_;rw [Qb];exact .ret (yes (by simp [Qbc,k,w]) (by simp [Zd,k]))
    · have k:e.Kind=9:=by simpa using k
      rw [Qmy he,Qb];refine .ite (fun w=>?_) fun w=>.ret (no (by simp [Qbc,k,w]) (by simp [Zd,k,w]));rw [hrd,Qb];unfold JT;rw [Qp (by omega),Qb];refine .gd hg ?_;rw [Qb];exact .ret (yes (by simp [Qbc,k,w]) (by simp [Zd,k,w]))
  · cases r with
    | inl d=>exact .ret hr
    | inr d=>exact .ret hr
theorem QmL {s:W3} (h:Gs s) {e:Qxt} (he:e.Keys.length≤1048576):Zh (toW s) e=some (toW (QaY s e.Kind e.At e.Want e.Keys)):=by
  have hrd:=QuI h;obtain ⟨a,b,R⟩:=s;have t:Two a b:=h.two;have hl:R.length≤12:=h.len;have hrd:Qan ⟨[a,b],R⟩=some (Qht (a,b,R)):=hrd;refine Qc6 ?_;show Post (Zh ⟨[a,b],R⟩ e) _;unfold Zh;rw [JQ,Qb];refine .ite (fun c=>.ret ?_) fun c=>?_
  · have c:inR e.At 0 1=false:=by simpa using c
    have c:¬ (0≤e.At∧e.At≤1):=fun q=>by rw [Jz.2 q] at c; cases c
    unfold QaY;rw [if_neg (by omega),if_neg (by omega)]
    rfl
  have hr:0≤e.At∧e.At < 2:=by
    have:inR e.At 0 1=true:=by simpa using c
    have:=Jz.1 this;omega
  have hi:e.At=0 ∨ e.At=1:=by omega
  have so:=QoS t hr;have hg:(0:Int)≤e.At∧e.At < ((([a,b]:List Qxq).length:Nat):Int):=by simp; omega
  have yes:=@QoX a b R e.At hi e.Kind e.Want e.Keys;have no:=@QsQ a b R e.At hi e.Kind e.Want e.Keys;generalize toW (QaY (a,b,R) e.Kind e.At e.Want e.Keys)=Z at *;generalize (([a,b]:List Qxq).getD e.At.toNat default)=X at *;refine .gd hg (.bd (Q:=fun r=>match r with | .inl d=>(⟨d.1,d.2⟩:Qxs)=Z | .inr d=>(⟨d.1,d.2.2.1⟩:Qxs)=Z) ?_ fun r hr=>?_)
  · refine .ite (fun k=>?_) fun n1=>.ite (fun k=>?_) fun n5=>.ite (fun k=>?_) fun n6=>.ite (fun k=>?_) fun n7=>.ite (fun k=>?_) fun n8=>.ite (fun k=>?_) fun n9=>.ret (no (by simp at n1 n5 n6 n7 n8 n9; simp [Qbc,n1,n5,n6,n7,n8,n9]) (by simp at n1 n9; simp [Zd,n1,n9]))
    · have k:e.Kind=1:=by simpa using k
      refine .ite (fun u=>.bd (Q:=fun x=>x=QfP X.End) ⟨_,QsO so.eo,rfl⟩ fun x hx=>.gd hg ?_) fun u=>.ret (no (by simp [Qbc,k,u]) (by simp [Zd,k,u]));subst hx;refine .ite (fun w=>?_) fun w=>.ret (yes (by simp [Qbc,k,u]) (by simp [Zd,k,w]));exact .bd (Q:=fun x=>x=⟨([a,b]:List Qxq).set e.At.toNat ⟨X.Up,(QfP X.End).1⟩,QmX R (QfP X.End).2.1⟩) ⟨_,QvF _ hl _,rfl⟩ fun x hx=>.ret (by rw [hx]; exact yes (by simp [Qbc,k,u]) (by simp [Zd,k,u,w]))
    · have k:e.Kind=5:=by simpa using k
      refine .ite (fun u=>?_) fun u=>.ret (no (by simp [Qbc,k,u]) (by simp [Zd,k]));have L:=(ZX so.eo).mono (m:=1048576) (by decide);exact .bd (Q:=fun x=>x=Qcl X.End) ⟨_,Qsh L.k L.t,(Qkz so.eo).1⟩ fun x hx=>.gd hg (.ret (by rw [hx]; exact yes (by simp [Qbc,k,u]) (by simp [Zd,k])))
    · have k:e.Kind=6:=by simpa using k
      have d:=QmI so.eo;refine .bd (Q:=fun x=>x=Qrb X.End) ⟨_,?_,rfl⟩ fun x hx=>.gd hg (.ret (by rw [hx]; exact yes (by simp [Qbc,k]) (by simp [Zd,k])));unfold QbB;refine (congrArg (fun m=>bd m _) (QeD ((ZX d).mono (by decide)))).trans ?_;rw [Qb]
    · have k:e.Kind=7:=by simpa using k
      refine .ite (fun u=>?_) fun u=>.ret (no (by simp at u; simp [Qbc,k,u]) (by simp [Zd,k]));have u:X.Up=false:=by simpa using u
      exact .bd (Q:=fun x=>x=ZM X.End) ⟨_,QsF so.eo (so.down u).heard,rfl⟩ fun x hx=>.gd hg (.ret (by rw [hx]; exact yes (by simp [Qbc,k,u]) (by simp [Zd,k])))
    · have k:e.Kind=8:=by simpa using k
      rw [Qh0,Qb];refine .ite (fun w=>?_) fun w=>.ret (no (by simp [Qbc,k,w]) (by simp [Zd,k]));have:=(Qfz.1 w).len;rw [Qh2 (by omega),Qb];refine .gd hg ?_;rw [Qb];exact .ret (yes (by simp [Qbc,k,w]) (by simp [Zd,k]))
    · have k:e.Kind=9:=by simpa using k
      rw [Qmy he,Qb];refine .ite (fun w=>?_) fun w=>.ret (no (by simp [Qbc,k,w]) (by simp [Zd,k,w]));rw [hrd,Qb];unfold JT;rw [Qp (by omega),Qb];refine .gd hg ?_;rw [Qb];exact .ret (yes (by simp [Qbc,k,w]) (by simp [Zd,k,w]))
  · cases r with
    | inl d=>exact .ret hr
    | inr d=>exact .ret hr
theorem QwH {s:W3} (h:Gs s) (i:Nat):Gs (s.1,s.2.1,Qv7 s.2.2 i):=by
  have:=h.len;exact ⟨h.two,by unfold Qv7; simp; omega,QnL h.words⟩
theorem QwI {s:W3} (h:Gs s) (e:Qxt):Qcp (toW s) e=some (toW (Qjb s e.Kind e.At)):=by
  have hl:=h.len;have hL:(toW s).Radio=s.2.2:=rfl;refine Qc6 ?_;unfold Qcp Qjb;rw [hL,JQ,Qb,wrap_i64 (n:=((s.2.2.length:Nat):Int) - 1) (by omega) (by omega)];refine .ite (fun c=>?_) fun c=>?_
  · have c:inR e.At 0 (((s.2.2.length:Nat):Int) - 1)=false:=by simpa using c
    have c:¬ (0≤e.At∧e.At≤(s.2.2.length:Int) - 1):=fun q=>by rw [Jz.2 q] at c; cases c
    rw [if_neg (by omega)];exact .ret rfl
  have hi:0≤e.At∧e.At < (s.2.2.length:Int):=by
    have:inR e.At 0 (((s.2.2.length:Nat):Int) - 1)=true:=by simpa using c
    have:=Jz.1 this;omega
  rw [if_pos hi];refine .ite (fun k=>?_) fun n=>.ite (fun k=>?_) fun n2=>?_
  · rw [if_pos (by simpa using k)];exact .bd (Q:=fun x=>x=_) ⟨_,QmK h hi,rfl⟩ fun x hx=>.ret hx
  · rw [if_neg (by simpa using n),if_pos (by simpa using k)];exact .gd hi (.bd (Q:=fun x=>x=_) ⟨_,QvG h _,rfl⟩ fun x hx=>.ret hx)
  · rw [if_neg (by simpa using n),if_neg (by simpa using n2),QsE hi hl,wrap_i64 (n:=e.At+1) (by omega) (by omega)];refine .gd (by omega) (.gd (by omega) (.gd (by omega) (.gd ?_ (.ret rfl))));simp [QW]; omega
theorem QvH {s:W3} (h:Gs s) (k at_:Int):Gs (Qjb s k at_):=by
  unfold Qjb;split
  · next c =>
    split
    · exact QgA h (by omega)
    split
    · exact QuJ h (h.words _ (Zo (by omega)))
    · exact QwH h _
  · exact h
theorem QvI {s:W3} (h:Gs s) (x:Qxr):QbT (toW s) x=some (toW (Qh8 s x)):=by
  have ka:=(ZX h.two.a.eo).k;have kb:=(ZX h.two.b.eo).k;have e0:((toW s).Sides.getD 0 default)=s.1:=rfl;have e1:((toW s).Sides.getD 1 default)=s.2.1:=rfl;have hS:(toW s).Sides.length=2:=rfl;unfold QbT Qh8;rw [QoE,Qb,hS,e0,e1,Qp (fun _=>by decide),Qh4 (by omega),Qh4 (by omega)]
  cases Jb x
  · simp [gcall,gd]
  · cases QP s.1.End.Keys x
    · cases QP s.2.1.End.Keys x
      · simp [gcall,gd,QvG h]
      · simp [gcall,gd]
    · simp [gcall,gd]
theorem Qt5 {s:W3} (h:Gs s) (x:Qxr):Gs (Qh8 s x):=by
  unfold Qh8;split
  · next c=>exact QuJ h c.1
  · exact h
theorem QvJ {s:W3} (h:Gs s) (e:Qxt):Gs (Jr s e):=by
  unfold Jr;split
  · exact QvH h _ _
  split
  · exact Qt5 h _
  · exact Qc9 h _ _ _ _
theorem QwJ {s:W3} (h:Gs s) {e:Qxt} (he:e.Keys.length≤1048576):Qbr (toW s) e=some (toW (Jr s e)):=by
  have ok:=Qc6 ((QoR (QkY h)).mono fun x hx=>hx);unfold Qbr;rw [ok,Qb,if_neg (by decide),QmH (QkY h),Qb];have hd:Qdt (toW s) e=some (toW (Jr s e)):=by
    unfold Qdt Jr;have h1:(if (e.Kind == 2)=true then some (e.Kind == 2) else if (e.Kind == 3)=true then some (e.Kind == 3) else some (e.Kind == 4))=some (decide (e.Kind=2 ∨ e.Kind=3 ∨ e.Kind=4)):=by
      by_cases c2:e.Kind=2
      · simp [c2]
      by_cases c3:e.Kind=3
      · simp [c3]
      by_cases c4:e.Kind=4
      · simp [c4]
      simp [c2,c3,c4]
    rw [h1,Qb]
    by_cases c:e.Kind=2 ∨ e.Kind=3 ∨ e.Kind=4
    · rw [if_pos (by simpa using c),if_pos c,QwI h,Qb]
    · rw [if_neg (by simpa using c),if_neg c]
      by_cases c10:e.Kind=10
      · rw [if_pos (by simpa using c10),if_pos c10,QvI h,Qb]
      · rw [if_neg (by simpa using c10),if_neg c10,QwG h he,Qb]
  rw [hd,Qb,QmH (QkY (QvJ h e)),Qb]
theorem QiW {s:W3} (h:Gs s):Gs (QgX s):=by
  obtain ⟨a,b,R⟩:=s
  induction R generalizing a b with
  | nil=>exact h
  | cons x r ih=>exact ih _ _ (QgA (i:=0) h (by simp))
theorem Qt6 {s:W3} (h:Gs s):Gs (QaR s):=Qc9 (Qc9 (QiW (Qc9 (Qc9 (QiW h) _ _ _ _) _ _ _ _)) _ _ _ _) _ _ _ _
theorem QoY {s:W3} (h:Gs s) (n:Nat):Gs (calmG n s):=by
  induction n generalizing s with
  | zero=>exact h
  | succ n ih=>exact ih (Qt6 h)
theorem QuK {β:Type} {s:W3} (h:Gs s) {step:List Qxq × List Qxr→Option ((List Qxq × List Qxr) ⊕ β)} {d:List Qxq→β} (h1:∀ t:W3,Gs t→t.2.2 ≠ []→step ([t.1,t.2.1],t.2.2)=some (.inl ([(QcO t 0).1,(QcO t 0).2.1],(QcO t 0).2.2))) (h2:∀ S,step (S,[])=some (.inr (d S))):lp step ([s.1,s.2.1],s.2.2)=some (d [(QgX s).1,(QgX s).2.1]):=by
  obtain ⟨a,b,R⟩:=s
  induction R generalizing a b with
  | nil=>exact QdM (h2 _)
  | cons x r ih =>
    rw [Qhf (h1 (a,b,x :: r) h (by simp))];exact ih _ _ (QgA (i:=0) h (by simp))
theorem QvK {s:W3} (h:Gs s):JE (toW s)=some (toW (QaR s)):=by
  have h1:=QiW h;have h2:=Qc9 h1 1 0 [] [];have h3:=Qc9 h2 1 1 [] [];have h4:=QiW h3;have h5:=Qc9 h4 5 0 [] [];unfold JE;refine (Qka (QuK h (d:=fun S=>(S.length,0,S,[])) (fun t ht hn=>?_) fun S=>?_)).trans ?_
  · have:0 < t.2.2.length:=List.length_pos_iff.2 hn;dsimp only;rw [if_pos (by simp; omega)];refine (Qka (QmK ht (at_:=0) ⟨by decide,by omega⟩)).trans rfl
  · rfl
  refine (Qka (QmL (s:=QgX s) h1 (e:=⟨1,0,[],[],Zj⟩) (Nat.zero_le _))).trans ?_;refine (Qka (QmL h2 (e:=⟨1,1,[],[],Zj⟩) (Nat.zero_le _))).trans ?_;refine (Qka (QuK h3 (d:=fun S=>(S,S.length,[],0)) (fun t ht hn=>?_) fun S=>?_)).trans ?_
  · have:0 < t.2.2.length:=List.length_pos_iff.2 hn;dsimp only;rw [if_pos (by simp; omega)];refine (Qka (QmK ht (at_:=0) ⟨by decide,by omega⟩)).trans rfl
  · rfl
  refine (Qka (QmL (s:=QgX (QaY (QaY (QgX s) 1 0 [] []) 1 1 [] [])) h4 (e:=⟨5,0,[],[],Zj⟩) (Nat.zero_le _))).trans ?_;refine (Qka (QmL h5 (e:=⟨5,1,[],[],Zj⟩) (Nat.zero_le _))).trans ?_
  rfl
def roundsN (n:Int):Nat:=(if n < 0 then 0 else if 100 < n then 100 else n).toNat
theorem QwK {s:W3} (h:Gs s) (n:Int):Qbp (toW s) n=some (toW (calmG (roundsN n) s)):=by
  have ok:=Qc6 ((QoR (QkY h)).mono fun x hx=>hx);have hN:roundsN n=(if n < 0 then 0 else if 100 < n then 100 else n).toNat:=rfl;unfold Qbp;rw [ok,Qb,if_neg (by decide),QvA (QkY h),Qb];refine Qc6 (.bd (Q:=fun x=>(⟨x.2.2.1,x.2.2.2⟩:Qxs)=toW (calmG (roundsN n) s)) (.lp (fun t=>∃ i:Nat,i≤roundsN n∧(⟨t.1,t.2.1⟩:Qxs)=toW (calmG i s)∧t.2.2=i) (fun t=>(100 - t.2.2).toNat) ⟨0,Nat.zero_le _,rfl,rfl⟩ fun t ⟨i,i0,i1,i2⟩=>.ite (fun c=>?_) fun c=>.ret ?_) fun x hx=>?_)
  · simp only [Bool.and_eq_true,decide_eq_true_eq] at c;rw [i1,QvK (QoY h i),Qb,← QlO];refine .ret ⟨⟨i+1,?_,rfl,?_⟩,?_⟩
    · rw [hN]; split
      · omega
      · split <;> omega
    · dsimp only; rw [wrap_i64 (by omega) (by omega)]; omega
    · dsimp only; rw [wrap_i64 (by omega) (by omega)]; omega
  · have:i=roundsN n:=by
      simp only [Bool.and_eq_true,decide_eq_true_eq] at c;rw [hN] at i0 ⊢;split at i0
      · split <;> omega
      · split at i0 <;> (repeat' split) <;> omega
    rw [← this]; exact i1
  · rw [hx,QmH (QkY (QoY h _)),Qb];exact .ret rfl
end Go.Proofs.YtjgjdobkahdgfaaGreat
