/-
  Plain Lean: ends that are ok, the program's and the reference's alike.
-/
import Derived.Test.YtjgjdobkahdgfaaGreatKz5
import Derived.Test.YtjgjdobkahdgfaaGreatHelQz
set_option linter.all false
namespace Go.Proofs.YtjgjdobkahdgfaaGreat
open Go Go.Ab
set_option maxHeartbeats 1000000
set_option maxRecDepth 100000
abbrev rE (r:Qxo):Qxm:=r.Entry
def Qeo (left:Int) (t:List Qxo) (i:Nat):Bool:=entryOk (t.getD i default).Entry && (decide (i=0) || lessE (t.getD (i - 1) default).Entry (t.getD i default).Entry) && ((t.getD i default).Stale || !(left == 0))
def Z8 (t:List Qxo):Bool:=t.any fun r=>r.Stale
def Qc4 (e:Qxp):Bool:=decide (e.Heard.length≤16) && inR e.Keep 0 6 && QmW e.Heard.length (Qeo e.Left e.Heard) && (decide (e.Keep > 0) == Z8 e.Heard)
theorem Qfx {t:List Qxo} (h:t.length≤1048576):Z9 t=some (Z8 t):=by
  have e:Qw t=some (match Z7 (fun i=>(t.getD i default).Stale) t.length with | some i=>(i:Int) | none=>-1):=by
    unfold Qw;rw [QbM t.length (fun i=>(t.getD i default).Stale) (fun i=>Sum.inl (i:Int)) (.inr ()) (fun i hi=>?_) (by rw [if_neg (by simp)]),Qb]
    · cases Z7 (fun i=>(t.getD i default).Stale) t.length <;> rfl
    · rw [if_pos (by simp; omega),Qp (by omega),Int.toNat_natCast,QM hi (by omega)];unfold Qb9;rw [Qb];split <;> simp_all
  unfold Z9 QF;rw [e,Qb]
  cases hf:Z7 (fun i=>(t.getD i default).Stale) t.length with
  | some i =>
    obtain ⟨q1,q2,_⟩:=ZK hf;have:Z8 t=true:=List.any_eq_true.2 ⟨_,Zo q1,q2⟩;rw [this];simp <;> omega
  | none =>
    have:Z8 t=false:=by
      cases hs:Z8 t
      · rfl
      · obtain ⟨r,hr,ht⟩:=List.any_eq_true.1 hs;obtain ⟨i,hi,rfl⟩:=Je hr;have:=JP hf i hi;rw [ht] at this; cases this
    rw [this]
    rfl
theorem QtT {e:Qxp} (h:e.Heard.length≤1048576):Jx e=some (Qc4 e):=by
  unfold Jx Qc4;rw [QgW e.Heard.length (Qeo e.Left e.Heard) (.inl ()) (.inr ()) (fun i hi hp=>?_) (fun _=>by rw [if_neg (by simp)]),Qb]
  · cases QmW e.Heard.length (Qeo e.Left e.Heard)
    · rw [if_neg (by decide)];simp
    · rw [if_pos rfl];dsimp only;rw [Jd,Qgk,Qb,Qfx h,Qgk,Qb];have hd:decide (((e.Heard.length:Nat):Int)≤16)=decide (e.Heard.length≤16):=decide_eq_decide.2 (by omega);rw [hd]
      cases decide (e.Heard.length≤16) <;> cases inR e.Keep 0 6 <;> simp
  · rw [if_pos (by simp; omega),Qp (by omega),Int.toNat_natCast,Qmx,Qb]
    by_cases h0:0 < i
    · have hq:=hp (i - 1) (by omega);unfold Qeo at hq ⊢;simp only [Bool.and_eq_true] at hq;rw [Qe4 hi h0 (by omega),Qp (fun _ _=>by omega),Int.toNat_natCast,Qbw,Qbw,QM hi (by omega)];have e1:decide ((i:Int) > 0)=true:=by simp; omega
      have e2:decide (i=0)=false:=by simp; omega
      rw [e1,e2]
      cases he:entryOk (e.Heard.getD i default).Entry
      · simp [gcall]
      · cases hs:((e.Left == 0) && (!((e.Heard.getD i default).Stale)))
        · have ha:=QaA hq.1.1;have hb:=QaA he;have hl:=QhZ (a:=(e.Heard.getD (i - 1) default).Entry) (b:=(e.Heard.getD i default).Entry) (by omega) (by omega);have hc:=Qjr (a:=(e.Heard.getD (i - 1) default).Entry) (b:=(e.Heard.getD i default).Entry) (by omega) (by omega);have hs':((e.Heard.getD i default).Stale || !(e.Left == 0))=true:=by
            cases q1:(e.Left == 0) <;> cases q2:(e.Heard.getD i default).Stale <;> simp_all
          rw [hs',gcall,if_pos ⟨rfl,rfl⟩,Qb,gcall,if_pos ⟨rfl,rfl⟩,Qb,gcall,if_pos ⟨rfl,rfl⟩,QtR ha hb,Qb];generalize cmpV (e.Heard.getD (i - 1) default).Entry.Addr (e.Heard.getD (i - 1) default).Entry.Len (e.Heard.getD i default).Entry.Addr (e.Heard.getD i default).Entry.Len=z at *
          by_cases c:pk (e.Heard.getD (i - 1) default).Entry < pk (e.Heard.getD i default).Entry
          · rw [hl.2 c,if_neg (by have:=hc.2 c; simp; omega)]; rfl
          · rw [Bool.eq_false_iff.2 (fun q=>c (hl.1 q)),if_pos (by have:=fun q=>c (hc.1 q); simp; omega)]; rfl
        · have hs':((e.Heard.getD i default).Stale || !(e.Left == 0))=false:=by
            cases q1:(e.Left == 0) <;> cases q2:(e.Heard.getD i default).Stale <;> simp_all
          rw [hs'];simp [gcall]
    · have e0:i=0:=by omega
      subst e0;unfold Qeo;rw [Qp (fun q=>absurd q (by decide)),gcall,if_neg (fun q=>absurd q.1 (by decide)),Qb,gcall,if_neg (fun q=>absurd q.1 (by decide)),Qb,gcall,if_neg (fun q=>absurd q.1 (by decide)),Qb,QM hi (by omega)];generalize entryOk (e.Heard.getD 0 default).Entry=x;generalize (e.Heard.getD 0 default).Stale=y;generalize (e.Left == 0)=z
      cases x <;> cases y <;> cases z <;> rfl
theorem QtU {e:Qxp}:Qa1 e=some (Qc4 e):=by
  unfold Qa1 Qc4;rw [JQ,Zi,Qb]
  by_cases hn:e.Heard.length≤16
  · have hd:decide (((e.Heard.length:Nat):Int) > 16)=false:=by simp; omega
    rw [hd,decide_eq_true hn]
    cases hk:inR e.Keep 0 6
    · simp
    · rw [if_neg (by decide)];have key:∀ F:Bool × Int→Option ((Bool × Int) ⊕ (Unit ⊕ Bool)),F=(fun s2:Bool × Int =>
          (if (decide (s2.2 < ((e.Heard.length:Nat):Int)))=true then
          gd ((0:Int)≤s2.2∧s2.2 < ((e.Heard.length:Nat):Int)) <|
          bd (Jh ((e.Heard.getD s2.2.toNat default).Entry)) fun x7 =>
          gd ((decide (s2.2 > 0))=true→((!x7)=false→((0:Int)≤IntKind.i64.wrap (s2.2 - 1)∧IntKind.i64.wrap (s2.2 - 1) < ((e.Heard.length:Nat):Int)))) <|
          bd (gcall ((decide (s2.2 > 0))=true∧(!x7)=false) (ZP ((e.Heard.getD ((IntKind.i64.wrap (s2.2 - 1)).toNat) default).Entry) ((e.Heard.getD s2.2.toNat default).Entry))) fun x9 =>
          (if (((!x7) || ((decide (s2.2 > 0)) && (!x9))) || ((!((e.Heard.getD s2.2.toNat default).Stale)) && (e.Left == 0)))=true then
          some (.inr (.inl ()))
          else
          some (.inl ((s2.1 || (e.Heard.getD s2.2.toNat default).Stale),IntKind.i64.wrap (s2.2+1))))
          else
          some (.inr (.inr s2.1))))→lp F (false,0)=some (if QmW e.Heard.length (Qeo e.Left e.Heard)=true then .inr (Z8 e.Heard) else .inl ()):=by
        intro F hF;have stop:∀ b,F (b,(e.Heard.length:Int))=some (.inr (.inr b)):=fun b=>by
          rw [hF];dsimp only;rw [if_neg (by simp)]
        have step:∀ (i:Nat) (b0 c:Bool),i < e.Heard.length→Qeo e.Left e.Heard i=c→F (b0,(i:Int))=some (if c=true then .inl (b0 || (e.Heard.getD i default).Stale,((i+1:Nat):Int)) else .inr (.inl ())):=by
          intro i b0 c hil hb;rw [hF];dsimp only;rw [if_pos (by simp; omega),Qp (by omega),Int.toNat_natCast,Qmw,Qb,QM hil (by omega),Qix];unfold Qeo at hb
          by_cases h0:0 < i
          · have e1:decide ((i:Int) > 0)=true:=by simp; omega
            have e2:decide (i=0)=false:=by simp; omega
            rw [Qe4 hil h0 (by omega),Qp (fun _ _=>by omega),Int.toNat_natCast,e1];rw [e2] at hb;subst hb;generalize (e.Heard.getD i default).Stale=y;generalize lessE (e.Heard.getD (i - 1) default).Entry (e.Heard.getD i default).Entry=w;generalize entryOk (e.Heard.getD i default).Entry=x;generalize (e.Left == 0)=z
            cases x <;> cases w <;> cases y <;> cases z <;> first | rfl | simp [gcall]
          · have e0:i=0:=by omega
            subst e0;rw [Qp (fun q=>absurd q (by simp)),gcall,if_neg (fun q=>absurd q.1 (by simp)),Qb];subst hb;generalize (e.Heard.getD 0 default).Stale=y;generalize entryOk (e.Heard.getD 0 default).Entry=x;generalize (e.Left == 0)=z
            cases x <;> cases y <;> cases z <;> rfl
        have go:∀ k i:Nat,i+k=e.Heard.length→(∀ j,j < i→Qeo e.Left e.Heard j=true)→lp F ((e.Heard.take i).any (fun r=>r.Stale),(i:Int))=some (if QmW e.Heard.length (Qeo e.Left e.Heard)=true then .inr (Z8 e.Heard) else .inl ()):=by
          intro k
          induction k with
          | zero =>
            intro i hi hp;have:i=e.Heard.length:=by omega
            subst this;rw [if_pos (Qfs hp),List.take_length];exact QdM (stop _)
          | succ k ih =>
            intro i hi hp;have hil:i < e.Heard.length:=by omega
            have et:(e.Heard.take (i+1)).any (fun r=>r.Stale)=((e.Heard.take i).any (fun r=>r.Stale) || (e.Heard.getD i default).Stale):=by
              rw [List.take_succ,List.any_append,List.getD_eq_getElem?_getD,List.getElem?_eq_getElem hil];simp
            have st:=step i ((e.Heard.take i).any (fun r=>r.Stale)) _ hil rfl
            cases hb:Qeo e.Left e.Heard i
            · rw [hb,if_neg (by decide)] at st;rw [QqZ hil hb,if_neg (by decide)];exact QdM st
            · rw [hb,if_pos rfl,← et] at st;rw [Qhf st];exact ih (i+1) (by omega) fun j hj=>by
                rcases Nat.lt_or_ge j i with c | c
                · exact hp j c
                · have:j=i:=by omega
                  subst this; exact hb
        exact go e.Heard.length 0 (by omega) fun j hj=>by omega
      rw [key _ rfl,Qb]
      cases QmW e.Heard.length (Qeo e.Left e.Heard)
      · simp
      · rw [if_pos rfl];dsimp only;rw [Bool.true_and,Bool.true_and,Bool.true_and]
        congr 1
        cases Z8 e.Heard <;> cases decide (e.Keep > 0) <;> rfl
  · have hd:decide (((e.Heard.length:Nat):Int) > 16)=true:=by simp; omega
    rw [hd,decide_eq_false hn,if_pos (by simp)];simp
def QfN (e:Qxp):Bool:=inR e.Name 0 65535 && inR e.Peer 0 65535 && !(e.Name == e.Peer) && Qbb e.Keys && inR e.Boot 1 1000 && inR e.Turn 0 1000000 && inR e.PeerTurn 0 1000000 && inR e.Got 0 1000000 && inR e.PeerBoot 0 999 && ((e.PeerBoot == 0) == (e.PeerTurn == 0)) &&
  inR e.Left 0 4 && !((e.PeerBoot == 0) && (e.Left != 0)) && !(e.Up && (e.Left == 0)) && inR e.Num 0 e.Turn && QV e.Under && !((e.Num == 0) && (e.Under.Kind != 0)) && J1 e.Want && J1 e.Told && J1 (JG e.Told e.Under) && Qc4 e
theorem Qdj {c:Qxn} (h:QV c=true):decide (c.Kind > 0)=(c.Kind != 0):=by
  unfold QV at h;have:c.Kind=0 ∨ c.Kind=3 ∨ c.Kind=1 ∨ c.Kind=2:=by
    split at h
    · omega
    · split at h
      · omega
      · split at h
        · omega
        · cases h
  rcases this with k | k | k | k <;> rw [k] <;> rfl
theorem Qww {e:Qxp} (h1:e.Keys.length≤1048576) (h2:e.Want.length≤1048576) (h3:e.Told.length≤1048576) (h4:e.Heard.length≤1048576):Qaq e=some (QfN e):=by
  unfold Qaq QfN;rw [Jd,Qb,Jd,Zi,Qb,Qmz h1,Zi,Qb];split
  · rename_i c; congr 1; grind
  · rename_i c1;rw [Jd,Qb,Jd,Zi,Qb,Jd,Zi,Qb,Jd,Zi,Qb];split
    · rename_i c; congr 1; grind
    · rename_i c2;rw [Jd,Qb];split
      · rename_i c; congr 1; grind
      · rename_i c3;rw [Jd,Qb];split
        · rename_i c; congr 1; grind
        · rename_i c4;rw [Jd,Qb,QnF,Zi,Qb];split
          · rename_i c; congr 1; grind
          · rename_i c5;rw [Qh1 h2,Qb,Qh1 (t:=e.Told) (by omega),Zi,Qb];have hu:QV e.Under=true:=by grind
            cases hw:J1 e.Want
            · rw [QdC (by simp),Qb,QdC (by simp),Qb,if_pos (by simp)]
              congr 1; grind
            · cases ht:J1 e.Told
              · rw [QdC (by simp),Qb,QdC (by simp),Qb,if_pos (by simp)]
                congr 1; grind
              · have al:=QlG (t:=e.Told) e.Under;have tl:=(Qfw ht).2;rw [Qc0 (by simp),Qoz (by omega) (Qfw ht).1 hu,Qb,Qc0 (by simp),Qh1 (by omega),Qb];split
                · rename_i c; congr 1; grind
                · rename_i c6;rw [QtT h4,Qb]
                  congr 1; grind
theorem QlH {e:Qxp} (h1:e.Keys.length≤1048576) (h3:e.Told.length≤1048576):ZR e=some (QfN e):=by
  have hk:=fun q=>Qdj (c:=e.Under) q;unfold ZR QfN;rw [JQ,Qb,JQ,Zi,Qb,Qmy h1,Zi,Qb,JQ,Zi,Qb,Qh0,Zi,Qb];split
  · rename_i c; congr 1; grind
  · rename_i c1;rw [JQ,Qb,JQ,Zi,Qb,JQ,Zi,Qb];split
    · rename_i c; congr 1; grind
    · rename_i c2;rw [JQ,Qb];have hl:inR e.Left 0 4=true→decide (e.Left > 0)=(e.Left != 0):=fun q=>by
        have:=Jz.1 q;rw [Bool.eq_iff_iff]; simp; omega
      split
      · rename_i c; congr 1; grind
      · rename_i c3;have hpre:(inR e.Name 0 65535 && inR e.Peer 0 65535 && !(e.Name == e.Peer) && Qbb e.Keys && inR e.Boot 1 1000 && inR e.Turn 0 1000000 && inR e.PeerTurn 0 1000000)=true∧(inR e.PeerBoot 0 999 && ((e.PeerBoot == 0) == (e.PeerTurn == 0)) && inR e.Left 0 4 && !((e.PeerBoot == 0) && (e.Left != 0)) && !(e.Up && (e.Left == 0)))=true∧J1 e.Want=true:=by
          refine ⟨?_,?_,?_⟩ <;> grind
        have hsp:(inR e.Name 0 65535 && inR e.Peer 0 65535 && !(e.Name == e.Peer) && Qbb e.Keys && inR e.Boot 1 1000 && inR e.Turn 0 1000000 && inR e.PeerTurn 0 1000000 && inR e.Got 0 1000000 && inR e.PeerBoot 0 999 && ((e.PeerBoot == 0) == (e.PeerTurn == 0)) &&
            inR e.Left 0 4 && !((e.PeerBoot == 0) && (e.Left != 0)) && !(e.Up && (e.Left == 0)) && inR e.Num 0 e.Turn && QV e.Under && !((e.Num == 0) && (e.Under.Kind != 0)) && J1 e.Want && J1 e.Told && J1 (JG e.Told e.Under) && Qc4 e) =
            (inR e.Num 0 e.Turn && inR e.Got 0 1000000 && QV e.Under && !((e.Under.Kind != 0) && (e.Num == 0)) && J1 e.Told && J1 (JG e.Told e.Under) && Qc4 e):=by
          obtain ⟨p1,p2,p3⟩:=hpre;clear c1 c2 c3 hl hk
          grind
        rw [hsp];clear c1 c2 c3 hl hsp hpre;rw [JQ,Qb,JQ,Zi,Qb,QnE,Zi,Qb]
        cases hn:inR e.Num 0 e.Turn
        · simp [gcall]
        · cases hg:inR e.Got 0 1000000
          · simp [gcall]
          · cases hu:QV e.Under
            · simp [gcall]
            · rw [hk hu]
              cases hz:((e.Under.Kind != 0) && (e.Num == 0))
              · rw [Qh0,Zi,Qb]
                cases ht:J1 e.Told
                · simp [gcall]
                · rw [Qsd (by omega) (Qfw ht).1,Qb5,Qb,Qh0,Qb5,Qb,QtU]
                  cases hT:J1 (JG e.Told e.Under) <;> simp [hT]
              · simp [gcall]
end Go.Proofs.YtjgjdobkahdgfaaGreat
