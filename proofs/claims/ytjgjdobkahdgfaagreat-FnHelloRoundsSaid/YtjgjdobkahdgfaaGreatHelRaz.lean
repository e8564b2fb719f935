/-
  Plain Lean: worlds that are ok, as both say it.
-/
import Derived.Test.YtjgjdobkahdgfaaGreatKz6
import Derived.Test.YtjgjdobkahdgfaaGreatHelNz
set_option linter.all false
namespace Go.Proofs.YtjgjdobkahdgfaaGreat
open Go Go.Ab
set_option maxHeartbeats 400000
set_option maxRecDepth 100000
structure Wz (w:Qv8):Prop where
  sides:w.Sides.length≤3
  ends:∀ s ∈ w.Sides,Lens s.End 40
  len:w.Radio.length≤100
def Qmx (e:Qv5):Bool:=((((((((((e.Turn == 0) && (e.PeerBoot == 0)) && (!e.Up)) && (e.Num == 0)) && (e.Under.Kind == 0)) && (((e.Told.length:Nat):Int) == 0)) && (!e.All)) && (e.Got == 0)) && (!e.Full)) && (((e.Heard.length:Nat):Int) == 0))
def QbU (s:Qv6):Bool:=Qa8 s.End && (s.Up || Qmx s.End)
theorem Qr6 {s:Qv6} (L:Lens s.End 1048576):Jv s=some (QbU s):=by
  unfold Jv QbU;rw [Qkd L.k L.t,Qb]
  cases Qa8 s.End <;> rfl
theorem QhY {e:Qv5}:Qmx e=true ↔ Down e:=by
  unfold Qmx;simp only [Bool.and_eq_true,beq_iff_eq,Bool.not_eq_true',Int.natCast_eq_zero,List.length_eq_zero_iff];exact ⟨fun ⟨⟨⟨⟨⟨⟨⟨⟨⟨q1,q2⟩,q3⟩,q4⟩,q5⟩,q6⟩,q7⟩,q8⟩,q9⟩,q10⟩=>⟨q1,q2,q3,q4,q5,q6,q7,q8,q9,q10⟩,fun d=>⟨⟨⟨⟨⟨⟨⟨⟨⟨d.turn,d.pboot⟩,d.up⟩,d.num⟩,d.kind⟩,d.told⟩,d.all⟩,d.got⟩,d.full⟩,d.heard⟩⟩
theorem QlC {s:Qv6}:QbU s=true ↔ So s:=by
  unfold QbU;rw [Bool.and_eq_true,Bool.or_eq_true];refine ⟨fun ⟨q1,q2⟩=>⟨JX.1 q1,fun u=>?_⟩,fun h=>⟨JX.2 h.eo,?_⟩⟩
  · rcases q2 with q | q
    · rw [u] at q; cases q
    · exact QhY.1 q
  · cases hu:s.Up
    · exact .inr (QhY.2 (h.down hu))
    · exact .inl rfl
theorem QtI {e:Qv5} (h:Qa8 e=true):Jp e=some (Qmx e):=by
  cases hd:Qmx e
  · have nd:¬ Down e:=fun q=>by rw [QhY.2 q] at hd; cases hd
    have:∃ b,Jp e=some b:=⟨_,rfl⟩;obtain ⟨b,hb⟩:=this;rw [hb]
    cases b with
    | false=>rfl
    | true =>
      exfalso;unfold Jp at hb;have hb:=Option.some.inj hb;simp only [Bool.and_eq_true,beq_iff_eq,Bool.not_eq_true',Int.natCast_eq_zero,List.length_eq_zero_iff] at hb;obtain ⟨⟨⟨⟨⟨⟨⟨⟨⟨⟨⟨⟨q1,q2⟩,q3⟩,q4⟩,q5⟩,q6⟩,q7⟩,q8⟩,q9⟩,q10⟩,q11⟩,q12⟩,q13⟩:=hb;exact nd ⟨q1,q2,q4,q6,q7.1,q8,q9,q10,q11,q12⟩
  · exact Qpx (s:=⟨false,e⟩) ⟨JX.1 h,fun _=>QhY.1 hd⟩ rfl
theorem Qvq {b:Bool} (h:(!b)=true):b=false:=by cases b; rfl; cases h
theorem QtJ {b:Bool} (h:¬ (!b)=true):b=true:=by cases b; exact absurd rfl h; rfl
theorem Qr7 {b:Bool} {x y:Int} (h:(b && (x == y))=true):b=true∧x=y:=by simpa using h
def QhZ (a b:Qv6) (R:List Qv7):Bool:=QbU a && QbU b && (a.End.Name == b.End.Peer) && (b.End.Name == a.End.Peer) && decide (R.length≤12) && QiW R.length (fun i=>Zw (R.getD i default))
theorem QiB {a b:Qv6} {R:List Qv7}:QhZ a b R=true ↔ Gs (a,b,R):=by
  unfold QhZ;simp only [Bool.and_eq_true,beq_iff_eq,decide_eq_true_eq];refine ⟨fun ⟨⟨⟨⟨⟨q1,q2⟩,q3⟩,q4⟩,q5⟩,q6⟩=>⟨⟨QlC.1 q1,QlC.1 q2,q3,q4⟩,q5,fun x hx=>?_⟩,fun h=>⟨⟨⟨⟨⟨QlC.2 h.two.a,QlC.2 h.two.b⟩,h.two.ab⟩,h.two.ba⟩,h.len⟩,QcN fun i hi=>h.words _ (ZG hi)⟩⟩;obtain ⟨i,hi,rfl⟩:=Qby hx;exact Qei q6 hi
theorem QvM {a b:Qv6} {R:List Qv7} (La:Lens a.End 1048576) (Lb:Lens b.End 1048576) (hR:R.length≤1048576):QN ⟨[a,b],R⟩=some (QhZ a b R):=by
  refine Qev ?_;unfold QN;refine .gd (fun _=>by simp) (.bd (Q:=fun x=>x=QbU a) (.gcall (fun _=>⟨_,Qr6 La,rfl⟩) fun c=>absurd (by rfl) c) fun x2 h2=>.gd (fun _=>by simp) (.bd (Q:=fun x=>(QbU a && x)=(QbU a && QbU b)) (.gcall (fun _=>⟨_,Qr6 Lb,rfl⟩) fun c=>?_) fun x4 h4=>.gd (fun _=>by simp) (.gd (fun _=>by simp) (.gd (fun _=>by simp) (.gd (fun _=>by simp) (.ite (fun c=>.ret ?_) fun c=>.bd (Q:=fun x=>x=if QiW R.length (fun i=>Zw (R.getD i default))=true then Sum.inr () else Sum.inl ()) ⟨_,QdB R.length (fun i=>Zw (R.getD i default)) (.inl ()) (.inr ()) (fun i hi _=>?_) (fun _=>?_),rfl⟩ fun x hx=>?_))))))
  · subst h2
    cases hs:QbU a
    · rfl
    · exact absurd (by rw [hs]; rfl) c
  · subst h2
    symm
    rw [Bool.eq_false_iff];intro w;have g:=QiB.1 w;have ha:QbU a=true:=QlC.2 g.two.a;have hb:QbU b=true:=QlC.2 g.two.b;have hx:x4=true:=by rw [ha,hb] at h4; exact h4
    have n1:(a.End.Name != b.End.Peer)=false:=by rw [g.two.ab]; simp
    have n2:(b.End.Name != a.End.Peer)=false:=by rw [g.two.ba]; simp
    have hl:R.length≤12:=g.len;have c:((((((((2:Nat):Int) != 2) || (!(QbU a))) || (!x4)) || (a.End.Name != b.End.Peer)) || (b.End.Name != a.End.Peer)) || (decide (((R.length:Nat):Int) > 12)))=true:=c;rw [ha,hx,n1,n2] at c;have c:((R.length:Nat):Int) > 12:=by simpa using c
    omega
  · dsimp only;rw [if_pos (by simp; omega),Qn (by omega),Int.toNat_natCast,QE hi (by omega)];refine (congrArg (fun m=>bd m _) (Qmn _)).trans ?_;rw [Qb];show (if (!(Zw (R.getD i default)))=true then _ else _)=_
    cases Zw (R.getD i default) <;> rfl
  · rw [if_neg (by simp)]
  · subst h2;have c:((((((((2:Nat):Int) != 2) || (!(QbU a))) || (!x4)) || (a.End.Name != b.End.Peer)) || (b.End.Name != a.End.Peer)) || (decide (((R.length:Nat):Int) > 12)))=false:=by
      rw [Bool.eq_false_iff]; exact c
    simp only [Bool.or_eq_false_iff,Bool.not_eq_false',bne_eq_false_iff_eq,decide_eq_false_iff_not] at c;obtain ⟨⟨⟨⟨⟨c0,c1⟩,c2⟩,c3⟩,c4⟩,c5⟩:=c;rw [c1,c2] at h4;have hb:QbU b=true:=h4.symm;have hw:QhZ a b R=QiW R.length (fun i=>Zw (R.getD i default)):=by
      unfold QhZ;rw [c1,hb,c3,c4];simp;intro _;omega
    subst hx;rw [hw]
    cases QiW R.length (fun i=>Zw (R.getD i default)) <;> exact .ret rfl
theorem QvN {a b:Qv6} {R:List Qv7} (La:Lens a.End 1048576) (Lb:Lens b.End 1048576) (hR:R.length≤1048576):QI ⟨[a,b],R⟩=some (QhZ a b R):=by
  refine Qev ?_;unfold QI;refine .ite (fun c=>.ret ?_) fun c=>?_
  · symm
    rw [Bool.eq_false_iff];intro w;have hl:R.length≤12:=(QiB.1 w).len;have c:((((2:Nat):Int) != 2) || (decide (((R.length:Nat):Int) > 12)))=true:=c;have c:((R.length:Nat):Int) > 12:=by simpa using c
    omega
  have hl:R.length≤12:=by
    have c:¬ ((((2:Nat):Int) != 2) || (decide (((R.length:Nat):Int) > 12)))=true:=c;have c:¬ ((R.length:Nat):Int) > 12:=by simpa using c
    omega
  refine .bd (Q:=fun x=>x=if (QbU a && (a.End.Name == b.End.Peer) && (QbU b && (b.End.Name == a.End.Peer)))=true then Sum.inr () else Sum.inl ()) (.lp (fun i=>i=0 ∨ (i=1∧QbU a=true∧a.End.Name=b.End.Peer) ∨ (i=2∧QbU a=true∧a.End.Name=b.End.Peer∧QbU b=true∧b.End.Name=a.End.Peer)) (fun i=>(2 - i).toNat) (.inl rfl) fun i hi=>?_) fun x hx=>?_
  · rcases hi with q | ⟨q,g1,g2⟩ | ⟨q,g1,g2,g3,g4⟩ <;> subst q
    · refine .ite (fun _=>.gd (by simp) (.bd (Q:=fun x=>x=Qa8 a.End) ⟨_,Qrs La.k La.w La.t La.h,rfl⟩ fun x6 h6=>.gd (fun _=>⟨(by decide:(0:Int)≤IntKind.i64.wrap (1 - 0)),(by decide:IntKind.i64.wrap (1 - 0) < (2:Int))⟩) (.bd (Q:=fun x=>(((!(Qa8 a.End)) || (a.End.Name != b.End.Peer)) || ((!a.Up) && (!x)))=!(QbU a && (a.End.Name == b.End.Peer))) (.gcall (fun c=>⟨_,QtI (e:=a.End) ?_,?_⟩) fun c=>?_) fun x8 h8=>.ite (fun c=>.ret ?_) fun c=>.ret ⟨.inr (.inl ⟨by decide,?_⟩),by show (2 - IntKind.i64.wrap ((0:Int)+1)).toNat < (2 - (0:Int)).toNat; decide⟩))) fun c=>absurd (by rfl) c
      · subst h6;have c2:((!(Qa8 a.End)) || (a.End.Name != b.End.Peer))=false:=c.2;simp only [Bool.or_eq_false_iff,Bool.not_eq_false'] at c2;exact c2.1
      · subst h6;show (((!(Qa8 a.End)) || (a.End.Name != b.End.Peer)) || ((!a.Up) && (!(Qmx a.End))))=!(QbU a && (a.End.Name == b.End.Peer));unfold QbU bne
        cases Qa8 a.End <;> cases a.End.Name == b.End.Peer <;> cases a.Up <;> cases Qmx a.End <;> rfl
      · subst h6;show (((!(Qa8 a.End)) || (a.End.Name != b.End.Peer)) || ((!a.Up) && (!false)))=_;have c:¬ ((!a.Up)=true∧((!(Qa8 a.End)) || (a.End.Name != b.End.Peer))=false):=c;unfold QbU bne at *
        cases h1:Qa8 a.End <;> cases h2:a.End.Name == b.End.Peer <;> cases h3:a.Up <;> simp_all
      · subst h6;have c:(((!(Qa8 a.End)) || (a.End.Name != b.End.Peer)) || ((!a.Up) && (!x8)))=true:=c;rw [h8] at c;have c:=Qvq c;rw [c]; rfl
      · subst h6;have c:¬ (((!(Qa8 a.End)) || (a.End.Name != b.End.Peer)) || ((!a.Up) && (!x8)))=true:=c;rw [h8] at c;exact Qr7 (QtJ c)
    · refine .ite (fun _=>.gd (by simp) (.bd (Q:=fun x=>x=Qa8 b.End) ⟨_,Qrs Lb.k Lb.w Lb.t Lb.h,rfl⟩ fun x6 h6=>.gd (fun _=>⟨(by decide:(0:Int)≤IntKind.i64.wrap (1 - 1)),(by decide:IntKind.i64.wrap (1 - 1) < (2:Int))⟩) (.bd (Q:=fun x=>(((!(Qa8 b.End)) || (b.End.Name != a.End.Peer)) || ((!b.Up) && (!x)))=!(QbU b && (b.End.Name == a.End.Peer))) (.gcall (fun c=>⟨_,QtI (e:=b.End) ?_,?_⟩) fun c=>?_) fun x8 h8=>.ite (fun c=>.ret ?_) fun c=>.ret ⟨.inr (.inr ⟨by decide,g1,g2,?_⟩),by show (2 - IntKind.i64.wrap ((1:Int)+1)).toNat < (2 - (1:Int)).toNat; decide⟩))) fun c=>absurd (by rfl) c
      · subst h6;have c2:((!(Qa8 b.End)) || (b.End.Name != a.End.Peer))=false:=c.2;simp only [Bool.or_eq_false_iff,Bool.not_eq_false'] at c2;exact c2.1
      · subst h6;show (((!(Qa8 b.End)) || (b.End.Name != a.End.Peer)) || ((!b.Up) && (!(Qmx b.End))))=!(QbU b && (b.End.Name == a.End.Peer));unfold QbU bne
        cases Qa8 b.End <;> cases b.End.Name == a.End.Peer <;> cases b.Up <;> cases Qmx b.End <;> rfl
      · subst h6;show (((!(Qa8 b.End)) || (b.End.Name != a.End.Peer)) || ((!b.Up) && (!false)))=_;have c:¬ ((!b.Up)=true∧((!(Qa8 b.End)) || (b.End.Name != a.End.Peer))=false):=c;unfold QbU bne at *
        cases h1:Qa8 b.End <;> cases h2:b.End.Name == a.End.Peer <;> cases h3:b.Up <;> simp_all
      · subst h6;have c:(((!(Qa8 b.End)) || (b.End.Name != a.End.Peer)) || ((!b.Up) && (!x8)))=true:=c;rw [h8] at c;have c:=Qvq c;rw [c,Bool.and_false]; rfl
      · subst h6;have c:¬ (((!(Qa8 b.End)) || (b.End.Name != a.End.Peer)) || ((!b.Up) && (!x8)))=true:=c;rw [h8] at c;exact Qr7 (QtJ c)
    · refine .ite (fun c=>absurd c (by simp)) fun _=>.ret ?_;rw [if_pos (by simp [g1,g2,g3,g4])]
  have hw:QhZ a b R=((QbU a && (a.End.Name == b.End.Peer) && (QbU b && (b.End.Name == a.End.Peer))) && QiW R.length (fun i=>Zw (R.getD i default))):=by
    unfold QhZ;rw [show decide (R.length≤12)=true from by simpa using hl]
    cases QbU a <;> cases QbU b <;> cases a.End.Name == b.End.Peer <;> cases b.End.Name == a.End.Peer <;> rfl
  subst hx;rw [hw]
  cases (QbU a && (a.End.Name == b.End.Peer) && (QbU b && (b.End.Name == a.End.Peer)))
  · exact .ret rfl
  · rw [if_pos rfl];dsimp only;refine .bd (Q:=fun x=>x=if QiW R.length (fun i=>Zw (R.getD i default))=true then Sum.inr () else Sum.inl ()) ⟨_,QdB R.length (fun i=>Zw (R.getD i default)) (.inl ()) (.inr ()) (fun i hi _=>?_) (fun _=>?_),rfl⟩ fun x hx=>?_
    · rw [if_pos (by simp; omega),Qn (by omega),Int.toNat_natCast,QE hi (by omega)];refine (congrArg (fun m=>bd m _) (Qoa _)).trans ?_;rw [Qb];show (if (!(Zw (R.getD i default)))=true then _ else _)=_
      cases Zw (R.getD i default) <;> rfl
    · rw [if_neg (by simp)]
    · subst hx
      cases QiW R.length (fun i=>Zw (R.getD i default)) <;> exact .ret rfl
theorem Qvr {α:Type} {l:List α} (h:l.length=2):∃ a b,l=[a,b]:=by
  cases l with
  | nil=>cases h
  | cons a l=>cases l with
    | nil=>cases h
    | cons b l=>cases l with
      | nil=>exact ⟨a,b,rfl⟩
      | cons c l=>simp at h
theorem QuG {w:Qv8} (h:Wz w):∃ v,QI w=some v∧QN w=some v∧(v=true→Gw w):=by
  obtain ⟨S,R⟩:=w
  by_cases c:S.length=2
  · obtain ⟨a,b,rfl⟩:=Qvr c;have La:=(h.ends a List.mem_cons_self).mono (m:=1048576) (by decide);have Lb:=(h.ends b (List.mem_cons_of_mem _ List.mem_cons_self)).mono (m:=1048576) (by decide);have hl:R.length≤100:=h.len;have hl:R.length≤1048576:=by omega
    exact ⟨QhZ a b R,QvN La Lb hl,QvM La Lb hl,fun q=>Qr1 (s:=(a,b,R)) (QiB.1 q)⟩
  · have c2:(((S.length:Nat):Int) != 2)=true:=by simp only [bne_iff_ne,ne_eq]; omega
    refine ⟨false,?_,?_,fun q=>by cases q⟩
    · unfold QI;rw [if_pos (by show ((((S.length:Nat):Int) != 2) || _)=true; rw [c2]; rfl)]
    · unfold QN;dsimp only;rw [c2];simp [gcall,gd]
end Go.Proofs.YtjgjdobkahdgfaaGreat
