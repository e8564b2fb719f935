/-
  Plain Lean: ends that are ok, the program's and the reference's alike.
-/
import Derived.Test.YtjgjdobkahdgfaaGreatKz5
import Derived.Test.YtjgjdobkahdgfaaGreatHelQz
set_option linter.all false
namespace Go.Proofs.YtjgjdobkahdgfaaGreat
open Go Go.Ab
set_option maxHeartbeats 1000000
set_option maxRecDepth 100000
abbrev rE (r:Qxa):Qw8:=r.Entry
def Qeg (left:Int) (t:List Qxa) (i:Nat):Bool:=entryOk (t.getD i default).Entry && (decide (i=0) || lessE (t.getD (i - 1) default).Entry (t.getD i default).Entry) && ((t.getD i default).Stale || !(left == 0))
def Jj (t:List Qxa):Bool:=t.any fun r=>r.Stale
def QcS (e:Qxb):Bool:=decide (e.Heard.length≤16) && inR e.Keep 0 6 && QmG e.Heard.length (Qeg e.Left e.Heard) && (decide (e.Keep > 0) == Jj e.Heard)
theorem Qjg {t:List Qxa} (h:t.length≤1048576):JT t=some (Jj t):=by
  have e:Qv t=some (match Z3 (fun i=>(t.getD i default).Stale) t.length with | some i=>(i:Int) | none=>-1):=by
    unfold Qv;rw [QbF t.length (fun i=>(t.getD i default).Stale) (fun i=>Sum.inl (i:Int)) (.inr ()) (fun i hi=>?_) (by rw [if_neg (by simp)]),Qb]
    · cases Z3 (fun i=>(t.getD i default).Stale) t.length <;> rfl
    · rw [if_pos (by simp; omega),Qp (by omega),Int.toNat_natCast,QK hi (by omega)];unfold Qb2;rw [Qb];split <;> simp_all
  unfold JT QE;rw [e,Qb]
  cases hf:Z3 (fun i=>(t.getD i default).Stale) t.length with
  | some i =>
    obtain ⟨q1,q2,_⟩:=ZF hf;have:Jj t=true:=List.any_eq_true.2 ⟨_,Zj q1,q2⟩;rw [this];simp <;> omega
  | none =>
    have:Jj t=false:=by
      cases hs:Jj t
      · rfl
      · obtain ⟨r,hr,ht⟩:=List.any_eq_true.1 hs;obtain ⟨i,hi,rfl⟩:=Z7 hr;have:=JK hf i hi;rw [ht] at this; cases this
    rw [this]
    rfl
theorem QtI {e:Qxb} (h:e.Heard.length≤1048576):Jr e=some (QcS e):=by
  unfold Jr QcS;rw [QgL e.Heard.length (Qeg e.Left e.Heard) (.inl ()) (.inr ()) (fun i hi hp=>?_) (fun _=>by rw [if_neg (by simp)]),Qb]
  · cases QmG e.Heard.length (Qeg e.Left e.Heard)
    · rw [if_neg (by decide)];simp
    · rw [if_pos rfl];dsimp only;rw [Z6,Qf9,Qb,Qjg h,Qf9,Qb];have hd:decide (((e.Heard.length:Nat):Int)≤16)=decide (e.Heard.length≤16):=decide_eq_decide.2 (by omega);rw [hd]
      cases decide (e.Heard.length≤16) <;> cases inR e.Keep 0 6 <;> simp
  · rw [if_pos (by simp; omega),Qp (by omega),Int.toNat_natCast,Qmi,Qb]
    by_cases h0:0 < i
    · have hq:=hp (i - 1) (by omega);unfold Qeg at hq ⊢;simp only [Bool.and_eq_true] at hq;rw [QeS hi h0 (by omega),Qp (fun _ _=>by omega),Int.toNat_natCast,Qbo,Qbo,QK hi (by omega)];have e1:decide ((i:Int) > 0)=true:=by simp; omega
      have e2:decide (i=0)=false:=by simp; omega
      rw [e1,e2]
      cases he:entryOk (e.Heard.getD i default).Entry
      · simp [gcall]
      · cases hs:((e.Left == 0) && (!((e.Heard.getD i default).Stale)))
        · have ha:=Qat hq.1.1;have hb:=Qat he;have hl:=QhQ (a:=(e.Heard.getD (i - 1) default).Entry) (b:=(e.Heard.getD i default).Entry) (by omega) (by omega);have hc:=Qjf (a:=(e.Heard.getD (i - 1) default).Entry) (b:=(e.Heard.getD i default).Entry) (by omega) (by omega);have hs':((e.Heard.getD i default).Stale || !(e.Left == 0))=true:=by
            cases q1:(e.Left == 0) <;> cases q2:(e.Heard.getD i default).Stale <;> simp_all
          rw [hs',gcall,if_pos ⟨rfl,rfl⟩,Qb,gcall,if_pos ⟨rfl,rfl⟩,Qb,gcall,if_pos ⟨rfl,rfl⟩,QtG ha hb,Qb];generalize cmpV (e.Heard.getD (i - 1) default).Entry.Addr (e.Heard.getD (i - 1) default).Entry.Len (e.Heard.getD i default).Entry.Addr (e.Heard.getD i default).Entry.Len=z at *
          by_cases c:pk (e.Heard.getD (i - 1) default).Entry < pk (e.Heard.getD i default).Entry
          · rw [hl.2 c,if_neg (by have:=hc.2 c; simp; omega)]; rfl
          · rw [Bool.eq_false_iff.2 (fun q=>c (hl.1 q)),if_pos (by have:=fun q=>c (hc.1 q); simp; omega)]; rfl
        · have hs':((e.Heard.getD i default).Stale || !(e.Left == 0))=false:=by
            cases q1:(e.Left == 0) <;> cases q2:(e.Heard.getD i default).Stale <;> simp_all
          rw [hs'];simp [gcall]
    · have e0:i=0:=by omega
      subst e0;unfold Qeg;rw [Qp (fun q=>absurd q (by decide)),gcall,if_neg (fun q=>absurd q.1 (by decide)),Qb,gcall,if_neg (fun q=>absurd q.1 (by decide)),Qb,gcall,if_neg (fun q=>absurd q.1 (by decide)),Qb,QK hi (by omega)];generalize entryOk (e.Heard.getD 0 default).Entry=x;generalize (e.Heard.getD 0 default).Stale=y;generalize (e.Left == 0)=z
      cases x <;> cases y <;> cases z <;> rfl
theorem QtJ {e:Qxb}:QaV e=some (QcS e):=by
  unfold QaV QcS;rw [JL,Zf,Qb]
  by_cases hn:e.Heard.length≤16
  · have hd:decide (((e.Heard.length:Nat):Int) > 16)=false:=by simp; omega
    rw [hd,decide_eq_true hn]
    cases hk:inR e.Keep 0 6
    · simp
    · rw [if_neg (by decide)];have key:∀ F:Bool × Int→Option ((Bool × Int) ⊕ (Unit ⊕ Bool)),F=(fun s2:Bool × Int =>
          (if (decide (s2.2 < ((e.Heard.length:Nat):Int)))=true then
          gd ((0:Int)≤s2.2∧s2.2 < ((e.Heard.length:Nat):Int)) <|
          bd (Ja ((e.Heard.getD s2.2.toNat default).Entry)) fun x7 =>
          gd ((decide (s2.2 > 0))=true→((!x7)=false→((0:Int)≤IntKind.i64.wrap (s2.2 - 1)∧IntKind.i64.wrap (s2.2 - 1) < ((e.Heard.length:Nat):Int)))) <|
          bd (gcall ((decide (s2.2 > 0))=true∧(!x7)=false) (ZL ((e.Heard.getD ((IntKind.i64.wrap (s2.2 - 1)).toNat) default).Entry) ((e.Heard.getD s2.2.toNat default).Entry))) fun x9 =>
          (if (((!x7) || ((decide (s2.2 > 0)) && (!x9))) || ((!((e.Heard.getD s2.2.toNat default).Stale)) && (e.Left == 0)))=true then
          some (.inr (.inl ()))
          else
          some (.inl ((s2.1 || (e.Heard.getD s2.2.toNat default).Stale),IntKind.i64.wrap (s2.2+1))))
          else
          some (.inr (.inr s2.1))))→lp F (false,0)=some (if QmG e.Heard.length (Qeg e.Left e.Heard)=true then .inr (Jj e.Heard) else .inl ()):=by
        intro F hF;have stop:∀ b,F (b,(e.Heard.length:Int))=some (.inr (.inr b)):=fun b=>by
          rw [hF];dsimp only;rw [if_neg (by simp)]
        have step:∀ (i:Nat) (b0 c:Bool),i < e.Heard.length→Qeg e.Left e.Heard i=c→F (b0,(i:Int))=some (if c=true then .inl (b0 || (e.Heard.getD i default).Stale,((i+1:Nat):Int)) else .inr (.inl ())):=by
          intro i b0 c hil hb;rw [hF];dsimp only;rw [if_pos (by simp; omega),Qp (by omega),Int.toNat_natCast,Qmh,Qb,QK hil (by omega),Qip];unfold Qeg at hb
          by_cases h0:0 < i
          · have e1:decide ((i:Int) > 0)=true:=by simp; omega
            have e2:decide (i=0)=false:=by simp; omega
            rw [QeS hil h0 (by omega),Qp (fun _ _=>by omega),Int.toNat_natCast,e1];rw [e2] at hb;subst hb;generalize (e.Heard.getD i default).Stale=y;generalize lessE (e.Heard.getD (i - 1) default).Entry (e.Heard.getD i default).Entry=w;generalize entryOk (e.Heard.getD i default).Entry=x;generalize (e.Left == 0)=z
            cases x <;> cases w <;> cases y <;> cases z <;> first | rfl | simp [gcall]
          · have e0:i=0:=by omega
            subst e0;rw [Qp (fun q=>absurd q (by simp)),gcall,if_neg (fun q=>absurd q.1 (by simp)),Qb];subst hb;generalize (e.Heard.getD 0 default).Stale=y;generalize entryOk (e.Heard.getD 0 default).Entry=x;generalize (e.Left == 0)=z
            cases x <;> cases y <;> cases z <;> rfl
        have go:∀ k i:Nat,i+k=e.Heard.length→(∀ j,j < i→Qeg e.Left e.Heard j=true)→lp F ((e.Heard.take i).any (fun r=>r.Stale),(i:Int))=some (if QmG e.Heard.length (Qeg e.Left e.Heard)=true then .inr (Jj e.Heard) else .inl ()):=by
          intro k
          induction k with
          | zero =>
            intro i hi hp;have:i=e.Heard.length:=by omega
            subst this;rw [if_pos (Qfj hp),List.take_length];exact QdC (stop _)
          | succ k ih =>
            intro i hi hp;have hil:i < e.Heard.length:=by omega
            have et:(e.Heard.take (i+1)).any (fun r=>r.Stale)=((e.Heard.take i).any (fun r=>r.Stale) || (e.Heard.getD i default).Stale):=by
              rw [List.take_succ,List.any_append,List.getD_eq_getElem?_getD,List.getElem?_eq_getElem hil];simp
            have st:=step i ((e.Heard.take i).any (fun r=>r.Stale)) _ hil rfl
            cases hb:Qeg e.Left e.Heard i
            · rw [hb,if_neg (by decide)] at st;rw [QqJ hil hb,if_neg (by decide)];exact QdC st
            · rw [hb,if_pos rfl,← et] at st;rw [Qg3 st];exact ih (i+1) (by omega) fun j hj=>by
                rcases Nat.lt_or_ge j i with c | c
                · exact hp j c
                · have:j=i:=by omega
                  subst this; exact hb
        exact go e.Heard.length 0 (by omega) fun j hj=>by omega
      rw [key _ rfl,Qb]
      cases QmG e.Heard.length (Qeg e.Left e.Heard)
      · simp
      · rw [if_pos rfl];dsimp only;rw [Bool.true_and,Bool.true_and,Bool.true_and]
        congr 1
        cases Jj e.Heard <;> cases decide (e.Keep > 0) <;> rfl
  · have hd:decide (((e.Heard.length:Nat):Int) > 16)=true:=by simp; omega
    rw [hd,decide_eq_false hn,if_pos (by simp)];simp
def QeT (e:Qxb):Bool:=inR e.Name 0 65535 && inR e.Peer 0 65535 && !(e.Name == e.Peer) && Qa5 e.Keys && inR e.Boot 1 1000 && inR e.Turn 0 1000000 && inR e.PeerTurn 0 1000000 && inR e.Got 0 1000000 && inR e.PeerBoot 0 999 && ((e.PeerBoot == 0) == (e.PeerTurn == 0)) &&
  inR e.Left 0 4 && !((e.PeerBoot == 0) && (e.Left != 0)) && !(e.Up && (e.Left == 0)) && inR e.Num 0 e.Turn && QT e.Under && !((e.Num == 0) && (e.Under.Kind != 0)) && JY e.Want && JY e.Told && JY (JD e.Told e.Under) && QcS e
theorem Qc6 {c:Qw9} (h:QT c=true):decide (c.Kind > 0)=(c.Kind != 0):=by
  unfold QT at h;have:c.Kind=0 ∨ c.Kind=3 ∨ c.Kind=1 ∨ c.Kind=2:=by
    split at h
    · omega
    · split at h
      · omega
      · split at h
        · omega
        · cases h
  rcases this with k | k | k | k <;> rw [k] <;> rfl
theorem Qus {e:Qxb} (h1:e.Keys.length≤1048576) (h2:e.Want.length≤1048576) (h3:e.Told.length≤1048576) (h4:e.Heard.length≤1048576):Jd e=some (QeT e):=by
  unfold Jd QeT;rw [Z6,Qb,Z6,Zf,Qb,Qmk h1,Zf,Qb];split
  · rename_i c; congr 1; grind
  · rename_i c1;rw [Z6,Qb,Z6,Zf,Qb,Z6,Zf,Qb,Z6,Zf,Qb];split
    · rename_i c; congr 1; grind
    · rename_i c2;rw [Z6,Qb];split
      · rename_i c; congr 1; grind
      · rename_i c3;rw [Z6,Qb];split
        · rename_i c; congr 1; grind
        · rename_i c4;rw [Z6,Qb,Qno,Zf,Qb];split
          · rename_i c; congr 1; grind
          · rename_i c5;rw [QhS h2,Qb,QhS (t:=e.Told) (by omega),Zf,Qb];have hu:QT e.Under=true:=by grind
            cases hw:JY e.Want
            · rw [Qdq (by simp),Qb,Qdq (by simp),Qb,if_pos (by simp)]
              congr 1; grind
            · cases ht:JY e.Told
              · rw [Qdq (by simp),Qb,Qdq (by simp),Qb,if_pos (by simp)]
                congr 1; grind
              · have al:=Qlt (t:=e.Told) e.Under;have tl:=(Qfn ht).2;rw [Qdp (by simp),Qol (by omega) (Qfn ht).1 hu,Qb,Qdp (by simp),QhS (by omega),Qb];split
                · rename_i c; congr 1; grind
                · rename_i c6;rw [QtI h4,Qb]
                  congr 1; grind
theorem Qlu {e:Qxb} (h1:e.Keys.length≤1048576) (h3:e.Told.length≤1048576):ZN e=some (QeT e):=by
  have hk:=fun q=>Qc6 (c:=e.Under) q;unfold ZN QeT;rw [JL,Qb,JL,Zf,Qb,Qmj h1,Zf,Qb,JL,Zf,Qb,QhR,Zf,Qb];split
  · rename_i c; congr 1; grind
  · rename_i c1;rw [JL,Qb,JL,Zf,Qb,JL,Zf,Qb];split
    · rename_i c; congr 1; grind
    · rename_i c2;rw [JL,Qb];have hl:inR e.Left 0 4=true→decide (e.Left > 0)=(e.Left != 0):=fun q=>by
        have:=Jv.1 q;rw [Bool.eq_iff_iff]; simp; omega
      split
      · rename_i c; congr 1; grind
      · rename_i c3;have hpre:(inR e.Name 0 65535 && inR e.Peer 0 65535 && !(e.Name == e.Peer) && Qa5 e.Keys && inR e.Boot 1 1000 && inR e.Turn 0 1000000 && inR e.PeerTurn 0 1000000)=true∧(inR e.PeerBoot 0 999 && ((e.PeerBoot == 0) == (e.PeerTurn == 0)) && inR e.Left 0 4 && !((e.PeerBoot == 0) && (e.Left != 0)) && !(e.Up && (e.Left == 0)))=true∧JY e.Want=true:=by
          refine ⟨?_,?_,?_⟩ <;> grind
        have hsp:(inR e.Name 0 65535 && inR e.Peer 0 65535 && !(e.Name == e.Peer) && Qa5 e.Keys && inR e.Boot 1 1000 && inR e.Turn 0 1000000 && inR e.PeerTurn 0 1000000 && inR e.Got 0 1000000 && inR e.PeerBoot 0 999 && ((e.PeerBoot == 0) == (e.PeerTurn == 0)) &&
            inR e.Left 0 4 && !((e.PeerBoot == 0) && (e.Left != 0)) && !(e.Up && (e.Left == 0)) && inR e.Num 0 e.Turn && QT e.Under && !((e.Num == 0) && (e.Under.Kind != 0)) && JY e.Want && JY e.Told && JY (JD e.Told e.Under) && QcS e) =
            (inR e.Num 0 e.Turn && inR e.Got 0 1000000 && QT e.Under && !((e.Under.Kind != 0) && (e.Num == 0)) && JY e.Told && JY (JD e.Told e.Under) && QcS e):=by
          obtain ⟨p1,p2,p3⟩:=hpre;clear c1 c2 c3 hl hk
          grind
        rw [hsp];clear c1 c2 c3 hl hsp hpre;rw [JL,Qb,JL,Zf,Qb,Qnn,Zf,Qb]
        cases hn:inR e.Num 0 e.Turn
        · simp [gcall]
        · cases hg:inR e.Got 0 1000000
          · simp [gcall]
          · cases hu:QT e.Under
            · simp [gcall]
            · rw [hk hu]
              cases hz:((e.Under.Kind != 0) && (e.Num == 0))
              · rw [QhR,Zf,Qb]
                cases ht:JY e.Told
                · simp [gcall]
                · rw [QrY (by omega) (Qfn ht).1,Qdu,Qb,QhR,Qdu,Qb,QtJ]
                  cases hT:JY (JD e.Told e.Under) <;> simp [hT]
              · simp [gcall]
end Go.Proofs.YtjgjdobkahdgfaaGreat
