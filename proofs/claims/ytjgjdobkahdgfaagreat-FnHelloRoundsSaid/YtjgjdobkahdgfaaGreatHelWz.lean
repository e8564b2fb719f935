/-
  Plain Lean: an end hears a word, the program's and the reference's alike; the row FnExactHelloHear.
-/
import Derived.Test.YtjgjdobkahdgfaaGreatKz6
import Derived.Test.YtjgjdobkahdgfaaGreatHelVz
import Derived.Test.YtjgjdobkahdgfaaGreatArgz
set_option linter.all false
namespace Go.Proofs.YtjgjdobkahdgfaaGreat
open Go Go.Ab
set_option maxHeartbeats 2000000
set_option maxRecDepth 100000
noncomputable def Qtx (z:Qv5) (w:Qv7):Option Qv5 :=
(if ((decide (w.Change.Kind > 0)) && (w.Num == (IntKind.i64.wrap (z.Got+1))))=true then
 bd (QaH z.Heard w.Change) fun x9 =>
(if x9.2=true then
 bd (Zx (⟨z.Name,z.Peer,z.Keys,z.Boot,z.Want,z.Turn,z.PeerBoot,z.PeerTurn,z.Up,z.Left,z.Num,(⟨z.Under.Kind,(⟨z.Under.Entry.Addr,z.Under.Entry.Len,z.Under.Entry.Cost,z.Under.Entry.Label⟩:Qv2)⟩:Qv3),z.Told,z.All,w.Num,(z.Full || (w.Change.Kind == 3)),x9.1,z.Keep⟩:Qv5)) fun x10 =>
 some x10
else
 bd (Zx (⟨z.Name,z.Peer,z.Keys,z.Boot,z.Want,z.Turn,z.PeerBoot,z.PeerTurn,z.Up,z.Left,z.Num,(⟨z.Under.Kind,(⟨z.Under.Entry.Addr,z.Under.Entry.Len,z.Under.Entry.Cost,z.Under.Entry.Label⟩:Qv2)⟩:Qv3),z.Told,z.All,z.Got,z.Full,z.Heard,z.Keep⟩:Qv5)) fun x11 =>
 some x11)
else
 bd (Zx (⟨z.Name,z.Peer,z.Keys,z.Boot,z.Want,z.Turn,z.PeerBoot,z.PeerTurn,z.Up,z.Left,z.Num,(⟨z.Under.Kind,(⟨z.Under.Entry.Addr,z.Under.Entry.Len,z.Under.Entry.Cost,z.Under.Entry.Label⟩:Qv2)⟩:Qv3),z.Told,z.All,z.Got,z.Full,z.Heard,z.Keep⟩:Qv5)) fun x12 =>
 some x12)
noncomputable def Qvc (y:Qv5) (w:Qv7):Option Qv5 :=
(if (!(w.Yours == y.Boot))=true then
 some (⟨y.Name,y.Peer,y.Keys,y.Boot,y.Want,y.Turn,y.PeerBoot,w.Turn,(w.Yours == y.Boot),4,y.Num,(⟨y.Under.Kind,(⟨y.Under.Entry.Addr,y.Under.Entry.Len,y.Under.Entry.Cost,y.Under.Entry.Label⟩:Qv2)⟩:Qv3),y.Told,y.All,y.Got,y.Full,y.Heard,y.Keep⟩:Qv5)
else
 bd (α:=Int × Int × Int × Int × Int × Int × Int × Int × List Qv2 × Bool × Int × Bool × List Qv1 × List Qv4 × Int × Int × List Qv2 × Int × Int × Int × Bool × Int) ((if ((decide (y.Under.Kind > 0)) && (w.Heard == y.Num))=true then
 bd (J0 (⟨y.Name,y.Peer,y.Keys,y.Boot,y.Want,y.Turn,y.PeerBoot,w.Turn,(w.Yours == y.Boot),4,y.Num,(⟨y.Under.Kind,(⟨y.Under.Entry.Addr,y.Under.Entry.Len,y.Under.Entry.Cost,y.Under.Entry.Label⟩:Qv2)⟩:Qv3),y.Told,y.All,y.Got,y.Full,y.Heard,y.Keep⟩:Qv5)) fun x8 =>
 some (x8.Name,x8.Peer,x8.Num,x8.Under.Kind,x8.Under.Entry.Addr,x8.Under.Entry.Len,x8.Under.Entry.Cost,x8.Under.Entry.Label,x8.Told,x8.All,x8.Got,x8.Full,x8.Keys,x8.Heard,x8.Keep,x8.Boot,x8.Want,x8.Turn,x8.PeerBoot,x8.PeerTurn,x8.Up,x8.Left)
else
 some (y.Name,y.Peer,y.Num,y.Under.Kind,y.Under.Entry.Addr,y.Under.Entry.Len,y.Under.Entry.Cost,y.Under.Entry.Label,y.Told,y.All,y.Got,y.Full,y.Keys,y.Heard,y.Keep,y.Boot,y.Want,y.Turn,y.PeerBoot,w.Turn,(w.Yours == y.Boot),4))) fun x5 =>
(if ((decide (w.Change.Kind > 0)) && (w.Num == (IntKind.i64.wrap (x5.2.2.2.2.2.2.2.2.2.2.1+1))))=true then
 bd (QaH x5.2.2.2.2.2.2.2.2.2.2.2.2.2.1 w.Change) fun x9 =>
(if x9.2=true then
 bd (Zx (⟨x5.1,x5.2.1,x5.2.2.2.2.2.2.2.2.2.2.2.2.1,x5.2.2.2.2.2.2.2.2.2.2.2.2.2.2.2.1,x5.2.2.2.2.2.2.2.2.2.2.2.2.2.2.2.2.1,x5.2.2.2.2.2.2.2.2.2.2.2.2.2.2.2.2.2.1,x5.2.2.2.2.2.2.2.2.2.2.2.2.2.2.2.2.2.2.1,x5.2.2.2.2.2.2.2.2.2.2.2.2.2.2.2.2.2.2.2.1,x5.2.2.2.2.2.2.2.2.2.2.2.2.2.2.2.2.2.2.2.2.1,x5.2.2.2.2.2.2.2.2.2.2.2.2.2.2.2.2.2.2.2.2.2,x5.2.2.1,(⟨x5.2.2.2.1,(⟨x5.2.2.2.2.1,x5.2.2.2.2.2.1,x5.2.2.2.2.2.2.1,x5.2.2.2.2.2.2.2.1⟩:Qv2)⟩:Qv3),x5.2.2.2.2.2.2.2.2.1,x5.2.2.2.2.2.2.2.2.2.1,w.Num,(x5.2.2.2.2.2.2.2.2.2.2.2.1 || (w.Change.Kind == 3)),x9.1,x5.2.2.2.2.2.2.2.2.2.2.2.2.2.2.1⟩:Qv5)) fun x10 =>
 some x10
else
 bd (Zx (⟨x5.1,x5.2.1,x5.2.2.2.2.2.2.2.2.2.2.2.2.1,x5.2.2.2.2.2.2.2.2.2.2.2.2.2.2.2.1,x5.2.2.2.2.2.2.2.2.2.2.2.2.2.2.2.2.1,x5.2.2.2.2.2.2.2.2.2.2.2.2.2.2.2.2.2.1,x5.2.2.2.2.2.2.2.2.2.2.2.2.2.2.2.2.2.2.1,x5.2.2.2.2.2.2.2.2.2.2.2.2.2.2.2.2.2.2.2.1,x5.2.2.2.2.2.2.2.2.2.2.2.2.2.2.2.2.2.2.2.2.1,x5.2.2.2.2.2.2.2.2.2.2.2.2.2.2.2.2.2.2.2.2.2,x5.2.2.1,(⟨x5.2.2.2.1,(⟨x5.2.2.2.2.1,x5.2.2.2.2.2.1,x5.2.2.2.2.2.2.1,x5.2.2.2.2.2.2.2.1⟩:Qv2)⟩:Qv3),x5.2.2.2.2.2.2.2.2.1,x5.2.2.2.2.2.2.2.2.2.1,x5.2.2.2.2.2.2.2.2.2.2.1,x5.2.2.2.2.2.2.2.2.2.2.2.1,x5.2.2.2.2.2.2.2.2.2.2.2.2.2.1,x5.2.2.2.2.2.2.2.2.2.2.2.2.2.2.1⟩:Qv5)) fun x11 =>
 some x11)
else
 bd (Zx (⟨x5.1,x5.2.1,x5.2.2.2.2.2.2.2.2.2.2.2.2.1,x5.2.2.2.2.2.2.2.2.2.2.2.2.2.2.2.1,x5.2.2.2.2.2.2.2.2.2.2.2.2.2.2.2.2.1,x5.2.2.2.2.2.2.2.2.2.2.2.2.2.2.2.2.2.1,x5.2.2.2.2.2.2.2.2.2.2.2.2.2.2.2.2.2.2.1,x5.2.2.2.2.2.2.2.2.2.2.2.2.2.2.2.2.2.2.2.1,x5.2.2.2.2.2.2.2.2.2.2.2.2.2.2.2.2.2.2.2.2.1,x5.2.2.2.2.2.2.2.2.2.2.2.2.2.2.2.2.2.2.2.2.2,x5.2.2.1,(⟨x5.2.2.2.1,(⟨x5.2.2.2.2.1,x5.2.2.2.2.2.1,x5.2.2.2.2.2.2.1,x5.2.2.2.2.2.2.2.1⟩:Qv2)⟩:Qv3),x5.2.2.2.2.2.2.2.2.1,x5.2.2.2.2.2.2.2.2.2.1,x5.2.2.2.2.2.2.2.2.2.2.1,x5.2.2.2.2.2.2.2.2.2.2.2.1,x5.2.2.2.2.2.2.2.2.2.2.2.2.2.1,x5.2.2.2.2.2.2.2.2.2.2.2.2.2.2.1⟩:Qv5)) fun x12 =>
 some x12))
def Qet (e:Qv5) (w:Qv7):Qv5:=if w.Boot > e.PeerBoot then { Qqv e with PeerBoot:=w.Boot } else e
def Qis (y:Qv5) (w:Qv7):Qv5:={ y with PeerTurn:=w.Turn,Up:=(w.Yours == y.Boot),Left:=4 }
def Qeu (e:Qv5):Qv5:={ e with Under:=⟨0,⟨0,0,0,0⟩⟩,Told:=Qdm e.Told e.Under,All:=if e.Under.Kind=3 then true else e.All }
def QcQ (e:Qv5) (w:Qv7):Qv5:=if e.Under.Kind ≠ 0∧w.Heard=e.Num then Qeu e else e
def QcR (e:Qv5) (w:Qv7):Qv5:=if w.Change.Kind ≠ 0∧w.Num=e.Got+1 then (if (Qft e.Heard w.Change).2=true then { e with Heard:=(Qft e.Heard w.Change).1,Got:=w.Num,Full:=e.Full || (w.Change.Kind == 3) } else e) else e
def Qa9 (y:Qv5) (w:Qv7):Qv5:=if w.Yours=y.Boot then kept (QcR (QcQ (Qis y w) w) w) else Qis y w
def Qel (e:Qv5) (w:Qv7):Bool:=!(e.Boot == 1000) && Zk e.Keys w && (w.From == e.Peer) && (w.To == e.Name) && (decide (w.Boot > e.PeerBoot) || ((w.Boot == e.PeerBoot) && decide (w.Turn > e.PeerTurn)))
def ZJ (e:Qv5) (w:Qv7):Qv5:=if Qa8 e=true then (if Qel e w=true then Qa9 (Qet e w) w else e) else Qva
structure Hr (x:Qv5):Prop where
  under:Zc x.Under=true
  told:Ord idE x.Told
  tl:x.Told.length≤9
  heard:Ord rE x.Heard
  hl:x.Heard.length≤16
  got:0≤x.Got∧x.Got≤1000000
theorem Qun {e:Qv5} (h:Qa8 e=true):Hr e:=by
  have g:inR e.Got 0 1000000=true∧Zc e.Under=true∧JW e.Told=true∧QcP e=true:=by
    simp only [Qa8,Bool.and_eq_true] at h;exact ⟨h.1.1.1.1.1.1.1.1.1.1.1.1.2,h.1.1.1.1.1.2,h.1.1.2,h.2⟩
  obtain ⟨t1,t2⟩:=Qff g.2.2.1;obtain ⟨h1,h2⟩:=Qob g.2.2.2;exact ⟨g.2.1,t1,by omega,h1,h2,JV.1 g.1⟩
theorem Qjf {e:Qv5} (h:Hr e) (w:Qv7):Hr (Qet e w):=by
  unfold Qet;split
  · exact ⟨rfl,⟨List.Pairwise.nil,fun x hx=>by cases hx⟩,Nat.zero_le _,Qqe h.heard,by simpa [Qqv,Qd5] using h.hl,⟨Int.le_refl _,by show (0:Int)≤1000000; decide⟩⟩
  · exact h
theorem QrC {e:Qv5} (h:Hr e) (w:Qv7):Hr (Qis e w):=⟨h.under,h.told,h.tl,h.heard,h.hl,h.got⟩
theorem QrD {e:Qv5} (h:Hr e):J0 e=some (Qeu e):=by
  have:=h.tl;unfold J0 Qeu;rw [Qo8 (by omega) h.told,Qb]
  by_cases c:e.Under.Kind=3
  · rw [if_pos (by simpa using c),if_pos c]
  · rw [if_neg (by simpa using c),if_neg c]
theorem Qjg {t:List Qv4} (h:t.length≤16) (c:Qv3):(Qft t c).1.length≤16:=by
  have w3:=Qbr (f:=rE) t c.Entry;have ho:=fun k=>(Qek t k).length_le;have into:∀ s:List Qv4,(QkD s c.Entry).length=s.length+1:=fun s=>by
    have:=Qbr (f:=rE) s c.Entry;simp [QkD]; omega
  unfold Qft Qqw;split
  · split
    · simpa using h
    · split
      · cases hf:Qak t with
        | none=>exact h
        | some s =>
          have:=Qmo (Z9 hf).1;dsimp only;rw [into];have:=(Z9 hf).1;omega
      · dsimp only;rw [into];omega
  · split
    · dsimp only;split
      · have:=ho (posK rE t c.Entry); omega
      · exact h
    · exact Nat.le_trans (List.length_filter_le _ _) h
theorem Qph {z:Qv5} {w:Qv7} (h1:Ord rE z.Heard) (h2:z.Heard.length≤16) (h3:0≤z.Got∧z.Got≤1000000) (hc:Zc w.Change=true):Qtx z w=some (kept (QcR z w)):=by
  have tl:=Qjg h2 w.Change;unfold Qtx QcR;rw [Qd4 hc,wrap_i64 (by omega) (by omega),Qum (by omega) h1,Qb]
  by_cases c:w.Change.Kind ≠ 0∧w.Num=z.Got+1
  · rw [if_pos (by simpa using c),if_pos c]
    cases ht:(Qft z.Heard w.Change).2
    · rw [if_neg (by decide),if_neg (by decide),Qoe (by exact Nat.le_trans h2 (by decide)),Qb]
    · rw [if_pos rfl,if_pos rfl,Qoe (by exact Nat.le_trans tl (by decide)),Qb]
  · rw [if_neg (by simpa using c),if_neg c,Qoe (by exact Nat.le_trans h2 (by decide)),Qb]
theorem QrE {y:Qv5} {w:Qv7} (h:Hr y) (hc:Zc w.Change=true):Qvc y w=some (Qa9 y w):=by
  have hu:=QrC h w;unfold Qvc Qa9;rw [Qd4 h.under]
  by_cases c:w.Yours=y.Boot
  · rw [if_neg (by simpa using c),if_pos c];rw [show QcQ (Qis y w) w=if y.Under.Kind ≠ 0∧w.Heard=y.Num then Qeu (Qis y w) else Qis y w from rfl]
    by_cases c2:y.Under.Kind ≠ 0∧w.Heard=y.Num
    · rw [if_pos (by simpa using c2),if_pos c2];refine (congrArg (fun m=>bd (bd m _) _) (QrD hu)).trans ?_;rw [Qb,Qb];exact Qph (z:=Qeu (Qis y w)) h.heard h.hl h.got hc
    · rw [if_neg (by simpa using c2),if_neg c2,Qb];exact Qph (z:=Qis y w) h.heard h.hl h.got hc
  · rw [if_pos (by simpa using c),if_neg c]
    rfl
theorem QrF {e:Qv5} {w:Qv7} (h:Hr e) (hc:Zc w.Change=true):Qbc e w=some (Qa9 (Qet e w) w):=by
  have hb:=Qjf h w;have hl:=h.hl;unfold Qbc;unfold Qet at hb ⊢
  by_cases c:w.Boot > e.PeerBoot
  · rw [if_pos c] at hb;rw [if_pos (by simpa using c),if_pos c,Qn7 (by omega),Qb,Qb];exact QrE hb hc
  · rw [if_neg c] at hb;rw [if_neg (by simpa using c),if_neg c,Qb];exact QrE hb hc
theorem Qke {y:Qv5} (h:Hr y) (w:Qv7):(Qa9 y w).Keys=y.Keys∧(Qa9 y w).Want=y.Want∧(Qa9 y w).Told.length≤10∧(Qa9 y w).Heard.length≤16:=by
  have hk:∀ z:Qv5,(kept z).Keys=z.Keys∧(kept z).Want=z.Want∧(kept z).Told=z.Told∧(kept z).Heard=z.Heard:=fun z=>by
    unfold kept;split <;> exact ⟨rfl,rfl,rfl,rfl⟩
  have hc:∀ z:Qv5,z.Heard.length≤16→(QcR z w).Keys=z.Keys∧(QcR z w).Want=z.Want∧(QcR z w).Told=z.Told∧(QcR z w).Heard.length≤16:=fun z hz=>by
    unfold QcR;split
    · split
      · exact ⟨rfl,rfl,rfl,Qjg hz _⟩
      · exact ⟨rfl,rfl,rfl,hz⟩
    · exact ⟨rfl,rfl,rfl,hz⟩
  have ha:(QcQ (Qis y w) w).Keys=y.Keys∧(QcQ (Qis y w) w).Want=y.Want∧(QcQ (Qis y w) w).Told.length≤10∧(QcQ (Qis y w) w).Heard=y.Heard:=by
    have tl:=h.tl;have al:=Qlo (t:=y.Told) y.Under;unfold QcQ;split
    · exact ⟨rfl,rfl,by show (Qdm y.Told y.Under).length≤10; omega,rfl⟩
    · exact ⟨rfl,rfl,by show y.Told.length≤10; omega,rfl⟩
  unfold Qa9;split
  · obtain ⟨a1,a2,a3,a4⟩:=ha;obtain ⟨b1,b2,b3,b4⟩:=hc (QcQ (Qis y w) w) (by rw [a4]; exact h.hl);obtain ⟨d1,d2,d3,d4⟩:=hk (QcR (QcQ (Qis y w) w) w);exact ⟨by rw [d1,b1,a1],by rw [d2,b2,a2],by rw [d3,b3]; exact a3,by rw [d4]; exact b4⟩
  · exact ⟨rfl,rfl,Nat.le_trans h.tl (by decide),h.hl⟩
theorem Qls {e:Qv5} {w:Qv7}:(Qet e w).Keys=e.Keys∧(Qet e w).Want=e.Want:=by
  unfold Qet;split <;> exact ⟨rfl,rfl⟩
theorem Qnk {ks:List Qv1} {w:Qv7} (h:Zk ks w=true):Zc w.Change=true:=by
  simp only [Zk,Zw,Bool.and_eq_true] at h;exact h.1.2.1.2
theorem Qkf {e:Qv5} {w:Qv7} (h:Qel e w=true):Zc w.Change=true:=by
  simp only [Qel,Bool.and_eq_true] at h;exact Qnk h.1.1.1.2
theorem Qof {e:Qv5} (h:Lens e 1048576) (w:Qv7):Qbd e w=some (ZJ e w):=by
  unfold Qbd ZJ;rw [Qkd h.k h.t,Qb]
  cases hok:Qa8 e
  · rfl
  · obtain ⟨l1,l2,l3,l4⟩:=Qiq hok;have I:=Qun hok;have hb:=Qjf I w;obtain ⟨t1,t2,t3,t4⟩:=Qke hb w;obtain ⟨b1,b2⟩:=Qls (e:=e) (w:=w);rw [if_neg (by decide),if_pos rfl,Qhg h.k h.w h.t h.h,Qb,Qfh h.k,Zg,Qb];have hv:Qel e w=(!(e.Boot == 1000) && Zk e.Keys w && (w.From == e.Peer) && (w.To == e.Name) && (decide (w.Boot > e.PeerBoot) || ((w.Boot == e.PeerBoot) && decide (w.Turn > e.PeerTurn)))):=rfl;have hlt:(decide (w.Boot < e.PeerBoot) || ((w.Boot == e.PeerBoot) && decide (w.Turn≤e.PeerTurn)))=!(decide (w.Boot > e.PeerBoot) || ((w.Boot == e.PeerBoot) && decide (w.Turn > e.PeerTurn))):=by
      rw [Bool.eq_iff_iff];simp only [Bool.or_eq_true,Bool.and_eq_true,Bool.not_eq_true',Bool.or_eq_false_iff,Bool.and_eq_false_iff,decide_eq_true_eq,decide_eq_false_iff_not,beq_iff_eq,beq_eq_false_iff_ne];omega
    rw [hlt];split
    · rename_i c;have:Qel e w=false:=by rw [hv]; clear hlt hv; grind
      rw [this]; rfl
    · rename_i c;split
      · rename_i c2;have:Qel e w=false:=by rw [hv]; clear hlt hv; grind
        rw [this]; rfl
      · rename_i c2;have:Qel e w=true:=by rw [hv]; clear hlt hv; grind
        rw [this,if_pos rfl,QrF I (Qkf this),Qb,Qhg (by rw [t1,b1]; exact h.k) (by rw [t2,b2]; exact h.w) (by omega) (by omega),Qb]
theorem Quo {t:List Qv4} {c:Qv3} (h:(Qft t c).2=false):(Qft t c).1=t∧c.Kind=1:=by
  unfold Qft at *
  by_cases c1:c.Kind=1
  · rw [if_pos c1] at *;refine ⟨?_,c1⟩;unfold Qqw at *
    by_cases c2:Qdp rE t c.Entry=true
    · rw [if_pos c2] at h; cases h
    · rw [if_neg c2] at *
      by_cases c3:t.length=16
      · rw [if_pos c3] at *
        cases hf:Qak t with
        | none=>rfl
        | some s=>rw [hf] at h; cases h
      · rw [if_neg c3] at h; cases h
  · rw [if_neg c1] at h
    by_cases c2:c.Kind=2
    · rw [if_pos c2] at h; cases h
    · rw [if_neg c2] at h; cases h
theorem Qvd {e:Qv5} (h:e.Keys.length≤1048576) (w:Qv7):JS e w=some (Qel e w):=by
  have hv:Qel e w=(!(e.Boot == 1000) && Zk e.Keys w && (w.From == e.Peer) && (w.To == e.Name) && (decide (w.Boot > e.PeerBoot) || ((w.Boot == e.PeerBoot) && decide (w.Turn > e.PeerTurn)))):=rfl;unfold JS ZR;rw [Qb,Qpc h,Zg,Qb];split
  · rename_i c;have:Qel e w=false:=by rw [hv]; clear hv; grind
    rw [this]
  · rename_i c
    congr 1
    rw [hv]; clear hv; grind
theorem Qkg {y:Qv5} {w:Qv7}:(Qa9 y w).Name=y.Name∧(Qa9 y w).Peer=y.Peer∧(Qa9 y w).Boot=y.Boot∧(Qa9 y w).Turn=y.Turn:=by
  have hk:∀ z:Qv5,(kept z).Name=z.Name∧(kept z).Peer=z.Peer∧(kept z).Boot=z.Boot∧(kept z).Turn=z.Turn:=fun z=>by
    unfold kept;split <;> exact ⟨rfl,rfl,rfl,rfl⟩
  have hc:∀ z:Qv5,(QcR z w).Name=z.Name∧(QcR z w).Peer=z.Peer∧(QcR z w).Boot=z.Boot∧(QcR z w).Turn=z.Turn:=fun z=>by
    unfold QcR;split
    · split <;> exact ⟨rfl,rfl,rfl,rfl⟩
    · exact ⟨rfl,rfl,rfl,rfl⟩
  have ha:(QcQ (Qis y w) w).Name=y.Name∧(QcQ (Qis y w) w).Peer=y.Peer∧(QcQ (Qis y w) w).Boot=y.Boot∧(QcQ (Qis y w) w).Turn=y.Turn:=by
    unfold QcQ;split <;> exact ⟨rfl,rfl,rfl,rfl⟩
  unfold Qa9;split
  · obtain ⟨a1,a2,a3,a4⟩:=ha;obtain ⟨b1,b2,b3,b4⟩:=hc (QcQ (Qis y w) w);obtain ⟨d1,d2,d3,d4⟩:=hk (QcR (QcQ (Qis y w) w) w);exact ⟨by rw [d1,b1,a1],by rw [d2,b2,a2],by rw [d3,b3,a3],by rw [d4,b4,a4]⟩
  · exact ⟨rfl,rfl,rfl,rfl⟩
end Go.Proofs.YtjgjdobkahdgfaaGreat
