/-
  Plain Lean: how much is left to tell; each calm round leaves less.
-/
import Derived.Test.YtjgjdobkahdgfaaGreatKz5
import Derived.Test.YtjgjdobkahdgfaaGreatHelCoz
set_option linter.all false
namespace Go.Proofs.YtjgjdobkahdgfaaGreat
open Go Go.Ab
set_option maxHeartbeats 400000
set_option maxRecDepth 100000
theorem QsT {t:List Qw8} {a b:Qw8} (h:same a b):Qbd idE t a=Qbd idE t b:=by
  have e:posK idE t a=posK idE t b:=by
    unfold posK;have:(fun x=>lessE (idE x) a)=(fun x=>lessE (idE x) b):=funext fun x=>Qiv ⟨rfl,rfl⟩ h;rw [this]
  unfold Qbd;rw [e,h.1,h.2]
theorem QsU {t:List Qw8} (ho:Ord idE t) {x:Qw8} (h:x ∈ t):Qbd idE t x=true:=by
  obtain ⟨i,hi,e⟩:=Z7 h;exact (QdE ho hi (by rw [e]; exact ⟨rfl,rfl⟩)).2
theorem Qp0 {t:List Qw8} (ho:Ord idE t) {x y:Qw8} (hx:x ∈ t) (hy:y ∈ t) (h:same x y):x=y:=by
  obtain ⟨i,hi,rfl⟩:=Z7 hx;obtain ⟨j,hj,rfl⟩:=Z7 hy;have e1:=(QdE ho hi h).1;have e2:=(QdE (e:=t.getD j default) ho hj ⟨rfl,rfl⟩).1;rw [e1,← e2]
theorem Qp1 {t:List Qw8} (ho:Ord idE t) (x:Qw8):QhY t x=!decide (x ∈ t):=by
  unfold QhY
  by_cases h:x ∈ t
  · obtain ⟨i,hi,e⟩:=Z7 h;obtain ⟨r1,r2⟩:=QdE (f:=idE) (e:=x) ho hi (by rw [e]; exact ⟨rfl,rfl⟩);rw [r2,← r1,e];simp [h]
  · have:¬ (Qbd idE t x=true∧t.getD (posK idE t x) default=x):=fun ⟨q1,q2⟩=>h (q2 ▸ Zj (J5.1 q1).1)
    cases hh:Qbd idE t x
    · simp [h]
    · have n:¬ t.getD (posK idE t x) default=x:=fun q=>this ⟨hh,q⟩;simp only [n,h,decide_false,Bool.not_false,Bool.or_true]
theorem Qkr {α:Type} {p q:α→Bool}:∀ {l:List α},(∀ w ∈ l,q w=true→p w=true)→(∃ y ∈ l,p y=true∧q y=false)→(l.filter q).length+1≤(l.filter p).length
  | [],_,⟨y,hy,_⟩=>by cases hy
  | a :: l,h,⟨y,hy,h1,h2⟩=>by
    have le:∀ {l:List α},(∀ w ∈ l,q w=true→p w=true)→(l.filter q).length≤(l.filter p).length:=fun {l} h=>by
      induction l with
      | nil=>exact Nat.le_refl _
      | cons a l ih =>
        have:=ih fun w hw=>h w (List.mem_cons_of_mem _ hw);rw [List.filter_cons,List.filter_cons]
        by_cases c:q a=true
        · rw [if_pos c,if_pos (h a List.mem_cons_self c)];simpa using this
        · rw [if_neg c];split
          · simp only [List.length_cons]; omega
          · exact this
    have ht:∀ w ∈ l,q w=true→p w=true:=fun w hw=>h w (List.mem_cons_of_mem _ hw);rw [List.filter_cons,List.filter_cons];rcases List.mem_cons.1 hy with e | e
    · subst e;have:=le ht;rw [if_neg (by rw [h2]; decide),if_pos h1];simp only [List.length_cons];omega
    · have:=Qkr ht ⟨y,e,h1,h2⟩
      by_cases c:q a=true
      · rw [if_pos c,if_pos (h a List.mem_cons_self c)];simp only [List.length_cons];omega
      · rw [if_neg c];split
        · simp only [List.length_cons]; omega
        · exact this
def dl (T W:List Qw8) (all:Bool):Nat:=(T.filter fun x=>!Qbd idE W x).length+(W.filter fun x=>!decide (x ∈ T)).length+(if all=true then 0 else 1)
theorem QwW (T W:List Qw8) (all:Bool):dl T W all≤T.length+W.length+1:=by
  have h1:=List.length_filter_le (fun x=>!Qbd idE W x) T;have h2:=List.length_filter_le (fun x=>!decide (x ∈ T)) W;unfold dl;split <;> omega
theorem QvN {T W:List Qw8} {all:Bool} (ht:Ord idE T) (hw:Ord idE W) (h:dl T W all=0):T=W∧all=true:=by
  unfold dl at h;have h1:(T.filter fun x=>!Qbd idE W x)=[]:=List.length_eq_zero_iff.1 (by omega);have h2:(W.filter fun x=>!decide (x ∈ T))=[]:=List.length_eq_zero_iff.1 (by omega);have ha:all=true:=by
    cases hA:all
    · rw [hA,if_neg (by decide)] at h;omega
    · rfl
  have k1:∀ x ∈ T,Qbd idE W x=true:=fun x hx=>by
    have:=List.filter_eq_nil_iff.1 h1 x hx;simpa using this
  have k2:∀ x ∈ W,x ∈ T:=fun x hx=>by
    have:=List.filter_eq_nil_iff.1 h2 x hx;simpa using this
  refine ⟨QoK ht.ord hw.ord fun x=>⟨fun q=>?_,k2 x⟩,ha⟩;obtain ⟨r1,r2⟩:=J5.1 (k1 x q);have m:=Zj (xs:=W) r1;have e:=Qp0 ht (k2 _ m) q r2;rw [← e]; exact m
theorem QsV {e:Qxb} (h1:To e.Told) (h2:To e.Want):((QdS e).Kind=0→dl e.Told e.Want e.All=0)∧((QdS e).Kind ≠ 0→dl (JD e.Told (QdS e)) e.Want (e.All || ((QdS e).Kind == 3))+1≤dl e.Told e.Want e.All):=by
  have ht:=QeV h1;have hw:=QeV h2;unfold QdS
  cases hf:Z3 (fun i=>!Qbd idE e.Want (e.Told.getD i default)) e.Told.length with
  | some i =>
    obtain ⟨q1,q2,_⟩:=ZF hf;dsimp only;refine ⟨fun q=>absurd q (by decide),fun _=>?_⟩;have q2:Qbd idE e.Want (e.Told.getD i default)=false:=by simpa using q2
    rw [show (((2:Int) == 3))=false from rfl,Bool.or_false];have ea:JD e.Told ⟨2,⟨(e.Told.getD i default).Addr,(e.Told.getD i default).Len,0,0⟩⟩=Qhd e.Told ⟨(e.Told.getD i default).Addr,(e.Told.getD i default).Len,0,0⟩:=by
      unfold JD;rw [if_neg (show ¬ (2:Int)=1 by decide),if_pos rfl]
    rw [ea];have sm:same ⟨(e.Told.getD i default).Addr,(e.Told.getD i default).Len,0,0⟩ (e.Told.getD i default):=⟨rfl,rfl⟩;generalize hE:(⟨(e.Told.getD i default).Addr,(e.Told.getD i default).Len,0,0⟩:Qw8)=E at *;obtain ⟨r1,r2⟩:=QdE (f:=idE) (e:=E) ht q1 ⟨sm.1.symm,sm.2.symm⟩;have ed:Qhd e.Told E=e.Told.take i ++ e.Told.drop (i+1):=by
      unfold Qhd;rw [if_pos r2,← r1]
    have f1:((Qhd e.Told E).filter fun x=>!Qbd idE e.Want x).length+1=(e.Told.filter fun x=>!Qbd idE e.Want x).length:=by
      have sp:e.Told=e.Told.take i ++ (e.Told.getD i default :: e.Told.drop (i+1)):=by
        have g:e.Told.getD i default=e.Told[i]:=by rw [List.getD_eq_getElem?_getD,List.getElem?_eq_getElem q1]; rfl
        rw [g,List.getElem_cons_drop q1,List.take_append_drop]
      rw [ed]
      conv=>rhs; rw [sp]
      rw [List.filter_append,List.filter_append,List.filter_cons_of_pos (by rw [q2]; rfl)];simp only [List.length_append,List.length_cons];omega
    have f2:(e.Want.filter fun x=>!decide (x ∈ Qhd e.Told E))=(e.Want.filter fun x=>!decide (x ∈ e.Told)):=by
      refine List.filter_congr fun w hx=>?_;have:w ∈ Qhd e.Told E ↔ w ∈ e.Told:=by
        rw [QpU ht];refine ⟨fun q=>q.1,fun q=>⟨q,fun s=>?_⟩⟩;have:=QsU hw hx;rw [QsT (b:=e.Told.getD i default) ⟨s.1.trans sm.1,s.2.trans sm.2⟩,q2] at this
        cases this
      simp only [this]
    unfold dl;rw [f2];omega
  | none =>
    have n1:=JK hf;have all1:∀ x ∈ e.Told,Qbd idE e.Want x=true:=fun x hx=>by
      obtain ⟨i,hi,rfl⟩:=Z7 hx;simpa using n1 i hi
    have z1:(e.Told.filter fun x=>!Qbd idE e.Want x)=[]:=List.filter_eq_nil_iff.2 fun x hx=>by rw [all1 x hx]; decide
    dsimp only
    cases hg:Z3 (fun i=>QhY e.Told (e.Want.getD i default)) e.Want.length with
    | some j =>
      obtain ⟨q1,q2,_⟩:=ZF hg;dsimp only;refine ⟨fun q=>absurd q (by decide),fun _=>?_⟩;rw [show (((1:Int) == 3))=false from rfl,Bool.or_false];have ea:JD e.Told ⟨1,e.Want.getD j default⟩=QnO e.Told (e.Want.getD j default):=by
        unfold JD;rw [if_pos rfl]
      rw [ea];have my:e.Want.getD j default ∈ e.Want:=Zj q1;have ny:e.Want.getD j default ∉ e.Told:=by
        rw [Qp1 ht] at q2;simpa using q2
      generalize e.Want.getD j default=y at *;have f1:((QnO e.Told y).filter fun x=>!Qbd idE e.Want x)=[]:=List.filter_eq_nil_iff.2 fun x hx=>by
        rcases (QmA ht).1 hx with q | ⟨q,_⟩
        · rw [q,QsU hw my]; decide
        · rw [all1 x q]; decide
      have f2:(e.Want.filter fun x=>!decide (x ∈ QnO e.Told y)).length+1≤(e.Want.filter fun x=>!decide (x ∈ e.Told)).length:=by
        refine Qkr (fun w hx q=>?_) ⟨y,my,by simp [ny],by simp [(QmA ht).2 (.inl (rfl:y=y))]⟩;have q:w ∉ QnO e.Told y:=by simpa using q
        have:w ∉ e.Told:=fun p=>by
          by_cases s:same w y
          · rw [Qp0 hw hx my s] at p; exact ny p
          · exact q ((QmA ht).2 (.inr ⟨p,s⟩))
        simp [this]
      unfold dl;rw [f1,z1];simp only [List.length_nil];omega
    | none =>
      have n2:=JK hg;have z2:(e.Want.filter fun x=>!decide (x ∈ e.Told))=[]:=List.filter_eq_nil_iff.2 fun x hx=>by
        obtain ⟨i,hi,rfl⟩:=Z7 hx;have:=n2 i hi;rw [Qp1 ht] at this;simpa using this
      dsimp only
      cases hA:e.All
      · rw [if_neg (by decide)];refine ⟨fun q=>absurd q (by decide),fun _=>?_⟩;have ea:JD e.Told ⟨3,⟨0,0,0,0⟩⟩=e.Told:=rfl;rw [ea];unfold dl;rw [if_neg (show ¬ (false=true) by decide),if_pos (show (false || ((3:Int) == 3))=true from rfl)];omega
      · rw [if_pos rfl];refine ⟨fun _=>?_,fun q=>absurd rfl q⟩;unfold dl;rw [z1,z2]
        rfl
def QnK (A B:Qxb):Nat:=2*dl (JD A.Told A.Under) A.Want (A.All || (A.Under.Kind == 3))+(if A.Under.Kind=0 then 0 else if B.Got=A.Num then 1 else 2)
theorem QuG {A:Qxb} (h:Eo A) (B:Qxb):QnK A B≤36:=by
  have h1:=h.ap.len;have h2:=h.want.len;have h3:=QwW (JD A.Told A.Under) A.Want (A.All || (A.Under.Kind == 3));unfold QnK;split
  · omega
  · split <;> omega
theorem Qp2 {t:List Qxa} (hl:t.length≤16) (h:(frE t).length≤8) (c:Qw9):(Qcf t c).2=true:=by
  unfold Qcf;split
  · unfold Qpz;split
    · rfl
    · split
      · next q =>
        cases hs:JM t with
        | some s=>rfl
        | none =>
          exfalso;have:=JK hs;have:fresh t=t:=List.filter_eq_self.2 fun r hr=>by
            obtain ⟨i,hi,rfl⟩:=Z7 hr;have:=this i hi;rw [this]; rfl
          unfold frE at h;rw [this,List.length_map] at h;omega
      · rfl
  · split <;> rfl
theorem Qp3 {x y p q:Qxb} (N1:Nx x y p) (N2:Nx y x q) (ex:Eo x) (ey:Eo y) (jx:x.PeerBoot=y.Boot) (jy:y.PeerBoot=x.Boot) (ux:x.Up=true) (T:Tells x y):QnK p q≤QnK x y - 1:=by
  have bx:Jy (Zx x) (QbZ y)=Zx x:=if_neg (by show ¬ y.Boot > x.PeerBoot; omega);have by_:Jy (Zx y) (QbZ x)=Zx y:=if_neg (by show ¬ x.Boot > y.PeerBoot; omega);have s1:=N1.soft;have h1:=N1.hf;have s2:=N2.soft;have h2:=N2.hf;rw [bx] at s1 h1;rw [by_] at s2 h2;have pw:=N1.want;generalize listenY (Zx x) (QbZ y)=L1 at *;generalize listenY (Zx y) (QbZ x)=L2 at *;have f1:(QbZ y).Yours=(Zx x).Boot:=jy;have f2:(QbZ x).Yours=(Zx y).Boot:=jx;have f3:(QbZ y).Heard=y.Got:=rfl;have f4:(QbZ x).Change=(QcU x).2∧(QbZ x).Num=(QcU x).1:=⟨rfl,rfl⟩;have f5:(Zx x).Under=(QcU x).2∧(Zx x).Num=(QcU x).1∧(Zx x).Told=x.Told∧(Zx x).All=x.All:=⟨rfl,rfl,rfl,rfl⟩;have f6:(Zx y).Got=y.Got∧(Zx y).Heard=y.Heard:=⟨rfl,rfl⟩;have h1n:=h1.num;have h1a:=h1.a;have h2c:=h2.c;rw [f3,f5.1,f5.2.1,f5.2.2.1,f5.2.2.2] at h1a;rw [f4.1,f4.2,f6.1,f6.2] at h2c;rw [f5.2.1] at h1n;have tl:=ex.told.len;have hl:=ey.heard.rt.len;have em:QnK p q=2*dl (JD L1.Told L1.Under) x.Want (L1.All || (L1.Under.Kind == 3))+(if L1.Under.Kind=0 then 0 else if L2.Got=L1.Num then 1 else 2):=by
    unfold QnK;rw [s1.told,s1.under,pw,s1.all,s1.num,s2.got]
  rw [em];unfold QnK
  by_cases k0:x.Under.Kind=0
  · have g:y.Got=x.Num∧frE y.Heard=x.Told:=by
      rcases T.num with ⟨g1,_,g3⟩ | ⟨g0,_⟩
      · rw [QaR k0] at g3;exact ⟨g1,g3⟩
      · exact absurd k0 g0
    have su:QcU x=(if (QdS x).Kind > 0 then x.Num+1 else x.Num,QdS x):=if_pos ⟨ux,k0⟩;rw [su] at h1a h2c h1n;dsimp only at h1a h2c h1n;obtain ⟨l1,l2⟩:=QsV ex.told ex.want;rw [QaR k0,if_pos k0,show (x.Under.Kind == 3)=false from by rw [k0]; rfl,Bool.or_false];rcases QpX (QnH ex) with k | k
    · rcases h1a with ⟨q,_⟩ | ⟨_,a1,a2,a3⟩
      · exact absurd k q
      · have z:=l1 k;rw [a1,a2,a3,QaR k,if_pos k,show ((QdS x).Kind == 3)=false from by rw [k]; rfl,Bool.or_false,z];omega
    · rw [if_pos k] at h1a h2c h1n;have nz:(QdS x).Kind ≠ 0:=by omega
      have l2:=l2 nz;have cap:(Qcf y.Heard (QdS x)).2=true:=Qp2 hl (by rw [g.2]; exact tl) _;rcases h1a with ⟨_,q,_⟩ | ⟨_,a1,a2,a3⟩
      · omega
      · rcases h2c with ⟨_,_,_,_,c5,_⟩ | ⟨c,_⟩
        · rw [a1,a2,a3,if_neg nz,c5,h1n,if_pos rfl];omega
        · exact absurd ⟨nz,by omega,f2,cap⟩ c
  · have su:QcU x=(x.Num,x.Under):=if_neg fun q=>k0 q.2;rw [su] at h1a h2c h1n;dsimp only at h1a h2c h1n;rw [if_neg k0];rcases T.num with ⟨g1,_⟩ | ⟨_,g1,_,g3⟩
    · rcases h1a with ⟨_,_,_,a4,a5,a6⟩ | ⟨c,_⟩
      · rw [QaR a4,a5,a6,if_pos a4,if_pos g1,show (L1.Under.Kind == 3)=false from by rw [a4]; rfl,Bool.or_false];omega
      · exact absurd ⟨k0,g1,f1⟩ c
    · have cap:(Qcf y.Heard x.Under).2=true:=Qp2 hl (by rw [g3]; exact tl) _;rcases h1a with ⟨_,q,_⟩ | ⟨_,a1,a2,a3⟩
      · omega
      · rcases h2c with ⟨_,_,_,_,c5,_⟩ | ⟨c,_⟩
        · rw [a1,a2,a3,if_neg k0,c5,h1n,if_pos rfl,if_neg (by omega)];omega
        · exact absurd ⟨k0,by omega,f2,cap⟩ c
end Go.Proofs.YtjgjdobkahdgfaaGreat
