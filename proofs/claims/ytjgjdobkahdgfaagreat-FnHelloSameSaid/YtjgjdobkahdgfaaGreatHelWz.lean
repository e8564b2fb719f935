/-
  Plain Lean: an end hears a word, the program's and the reference's alike; the row FnExactHelloHear.
-/
import Derived.Test.YtjgjdobkahdgfaaGreatKz5
import Derived.Test.YtjgjdobkahdgfaaGreatHelVz
import Derived.Test.YtjgjdobkahdgfaaGreatArgz
set_option linter.all false
namespace Go.Proofs.YtjgjdobkahdgfaaGreat
open Go Go.Ab
set_option maxHeartbeats 2000000
set_option maxRecDepth 100000
noncomputable def Quu (z:Qxb) (w:Qxd):Option Qxb :=
(if ((decide (w.Change.Kind > 0)) && (w.Num == (IntKind.i64.wrap (z.Got+1))))=true then
 bd (QaL z.Heard w.Change) fun x9 =>
(if x9.2=true then
 bd (Zy (⟨z.Name,z.Peer,z.Keys,z.Boot,z.Want,z.Turn,z.PeerBoot,z.PeerTurn,z.Up,z.Left,z.Num,(⟨z.Under.Kind,(⟨z.Under.Entry.Addr,z.Under.Entry.Len,z.Under.Entry.Cost,z.Under.Entry.Label⟩:Qw8)⟩:Qw9),z.Told,z.All,w.Num,(z.Full || (w.Change.Kind == 3)),x9.1,z.Keep⟩:Qxb)) fun x10 =>
 some x10
else
 bd (Zy (⟨z.Name,z.Peer,z.Keys,z.Boot,z.Want,z.Turn,z.PeerBoot,z.PeerTurn,z.Up,z.Left,z.Num,(⟨z.Under.Kind,(⟨z.Under.Entry.Addr,z.Under.Entry.Len,z.Under.Entry.Cost,z.Under.Entry.Label⟩:Qw8)⟩:Qw9),z.Told,z.All,z.Got,z.Full,z.Heard,z.Keep⟩:Qxb)) fun x11 =>
 some x11)
else
 bd (Zy (⟨z.Name,z.Peer,z.Keys,z.Boot,z.Want,z.Turn,z.PeerBoot,z.PeerTurn,z.Up,z.Left,z.Num,(⟨z.Under.Kind,(⟨z.Under.Entry.Addr,z.Under.Entry.Len,z.Under.Entry.Cost,z.Under.Entry.Label⟩:Qw8)⟩:Qw9),z.Told,z.All,z.Got,z.Full,z.Heard,z.Keep⟩:Qxb)) fun x12 =>
 some x12)
noncomputable def Qwl (y:Qxb) (w:Qxd):Option Qxb :=
(if (!(w.Yours == y.Boot))=true then
 some (⟨y.Name,y.Peer,y.Keys,y.Boot,y.Want,y.Turn,y.PeerBoot,w.Turn,(w.Yours == y.Boot),4,y.Num,(⟨y.Under.Kind,(⟨y.Under.Entry.Addr,y.Under.Entry.Len,y.Under.Entry.Cost,y.Under.Entry.Label⟩:Qw8)⟩:Qw9),y.Told,y.All,y.Got,y.Full,y.Heard,y.Keep⟩:Qxb)
else
 bd (α:=Int × Int × Int × Int × Int × Int × Int × Int × List Qw8 × Bool × Int × Bool × List Qw7 × List Qxa × Int × Int × List Qw8 × Int × Int × Int × Bool × Int) ((if ((decide (y.Under.Kind > 0)) && (w.Heard == y.Num))=true then
 bd (J1 (⟨y.Name,y.Peer,y.Keys,y.Boot,y.Want,y.Turn,y.PeerBoot,w.Turn,(w.Yours == y.Boot),4,y.Num,(⟨y.Under.Kind,(⟨y.Under.Entry.Addr,y.Under.Entry.Len,y.Under.Entry.Cost,y.Under.Entry.Label⟩:Qw8)⟩:Qw9),y.Told,y.All,y.Got,y.Full,y.Heard,y.Keep⟩:Qxb)) fun x8 =>
 some (x8.Name,x8.Peer,x8.Num,x8.Under.Kind,x8.Under.Entry.Addr,x8.Under.Entry.Len,x8.Under.Entry.Cost,x8.Under.Entry.Label,x8.Told,x8.All,x8.Got,x8.Full,x8.Keys,x8.Heard,x8.Keep,x8.Boot,x8.Want,x8.Turn,x8.PeerBoot,x8.PeerTurn,x8.Up,x8.Left)
else
 some (y.Name,y.Peer,y.Num,y.Under.Kind,y.Under.Entry.Addr,y.Under.Entry.Len,y.Under.Entry.Cost,y.Under.Entry.Label,y.Told,y.All,y.Got,y.Full,y.Keys,y.Heard,y.Keep,y.Boot,y.Want,y.Turn,y.PeerBoot,w.Turn,(w.Yours == y.Boot),4))) fun x5 =>
(if ((decide (w.Change.Kind > 0)) && (w.Num == (IntKind.i64.wrap (x5.2.2.2.2.2.2.2.2.2.2.1+1))))=true then
 bd (QaL x5.2.2.2.2.2.2.2.2.2.2.2.2.2.1 w.Change) fun x9 =>
(if x9.2=true then
 bd (Zy (⟨x5.1,x5.2.1,x5.2.2.2.2.2.2.2.2.2.2.2.2.1,x5.2.2.2.2.2.2.2.2.2.2.2.2.2.2.2.1,x5.2.2.2.2.2.2.2.2.2.2.2.2.2.2.2.2.1,x5.2.2.2.2.2.2.2.2.2.2.2.2.2.2.2.2.2.1,x5.2.2.2.2.2.2.2.2.2.2.2.2.2.2.2.2.2.2.1,x5.2.2.2.2.2.2.2.2.2.2.2.2.2.2.2.2.2.2.2.1,x5.2.2.2.2.2.2.2.2.2.2.2.2.2.2.2.2.2.2.2.2.1,x5.2.2.2.2.2.2.2.2.2.2.2.2.2.2.2.2.2.2.2.2.2,x5.2.2.1,(⟨x5.2.2.2.1,(⟨x5.2.2.2.2.1,x5.2.2.2.2.2.1,x5.2.2.2.2.2.2.1,x5.2.2.2.2.2.2.2.1⟩:Qw8)⟩:Qw9),x5.2.2.2.2.2.2.2.2.1,x5.2.2.2.2.2.2.2.2.2.1,w.Num,(x5.2.2.2.2.2.2.2.2.2.2.2.1 || (w.Change.Kind == 3)),x9.1,x5.2.2.2.2.2.2.2.2.2.2.2.2.2.2.1⟩:Qxb)) fun x10 =>
 some x10
else
 bd (Zy (⟨x5.1,x5.2.1,x5.2.2.2.2.2.2.2.2.2.2.2.2.1,x5.2.2.2.2.2.2.2.2.2.2.2.2.2.2.2.1,x5.2.2.2.2.2.2.2.2.2.2.2.2.2.2.2.2.1,x5.2.2.2.2.2.2.2.2.2.2.2.2.2.2.2.2.2.1,x5.2.2.2.2.2.2.2.2.2.2.2.2.2.2.2.2.2.2.1,x5.2.2.2.2.2.2.2.2.2.2.2.2.2.2.2.2.2.2.2.1,x5.2.2.2.2.2.2.2.2.2.2.2.2.2.2.2.2.2.2.2.2.1,x5.2.2.2.2.2.2.2.2.2.2.2.2.2.2.2.2.2.2.2.2.2,x5.2.2.1,(⟨x5.2.2.2.1,(⟨x5.2.2.2.2.1,x5.2.2.2.2.2.1,x5.2.2.2.2.2.2.1,x5.2.2.2.2.2.2.2.1⟩:Qw8)⟩:Qw9),x5.2.2.2.2.2.2.2.2.1,x5.2.2.2.2.2.2.2.2.2.1,x5.2.2.2.2.2.2.2.2.2.2.1,x5.2.2.2.2.2.2.2.2.2.2.2.1,x5.2.2.2.2.2.2.2.2.2.2.2.2.2.1,x5.2.2.2.2.2.2.2.2.2.2.2.2.2.2.1⟩:Qxb)) fun x11 =>
 some x11)
else
 bd (Zy (⟨x5.1,x5.2.1,x5.2.2.2.2.2.2.2.2.2.2.2.2.1,x5.2.2.2.2.2.2.2.2.2.2.2.2.2.2.2.1,x5.2.2.2.2.2.2.2.2.2.2.2.2.2.2.2.2.1,x5.2.2.2.2.2.2.2.2.2.2.2.2.2.2.2.2.2.1,x5.2.2.2.2.2.2.2.2.2.2.2.2.2.2.2.2.2.2.1,x5.2.2.2.2.2.2.2.2.2.2.2.2.2.2.2.2.2.2.2.1,x5.2.2.2.2.2.2.2.2.2.2.2.2.2.2.2.2.2.2.2.2.1,x5.2.2.2.2.2.2.2.2.2.2.2.2.2.2.2.2.2.2.2.2.2,x5.2.2.1,(⟨x5.2.2.2.1,(⟨x5.2.2.2.2.1,x5.2.2.2.2.2.1,x5.2.2.2.2.2.2.1,x5.2.2.2.2.2.2.2.1⟩:Qw8)⟩:Qw9),x5.2.2.2.2.2.2.2.2.1,x5.2.2.2.2.2.2.2.2.2.1,x5.2.2.2.2.2.2.2.2.2.2.1,x5.2.2.2.2.2.2.2.2.2.2.2.1,x5.2.2.2.2.2.2.2.2.2.2.2.2.2.1,x5.2.2.2.2.2.2.2.2.2.2.2.2.2.2.1⟩:Qxb)) fun x12 =>
 some x12))
def Jy (e:Qxb) (w:Qxd):Qxb:=if w.Boot > e.PeerBoot then { QqQ e with PeerBoot:=w.Boot } else e
def QfB (y:Qxb) (w:Qxd):Qxb:={ y with PeerTurn:=w.Turn,Up:=(w.Yours == y.Boot),Left:=4 }
def Qei (e:Qxb):Qxb:={ e with Under:=⟨0,⟨0,0,0,0⟩⟩,Told:=JD e.Told e.Under,All:=if e.Under.Kind=3 then true else e.All }
def JE (e:Qxb) (w:Qxd):Qxb:=if e.Under.Kind ≠ 0∧w.Heard=e.Num then Qei e else e
def JN (e:Qxb) (w:Qxd):Qxb:=if w.Change.Kind ≠ 0∧w.Num=e.Got+1 then (if (Qcf e.Heard w.Change).2=true then { e with Heard:=(Qcf e.Heard w.Change).1,Got:=w.Num,Full:=e.Full || (w.Change.Kind == 3) } else e) else e
def listenY (y:Qxb) (w:Qxd):Qxb:=if w.Yours=y.Boot then kept (JN (JE (QfB y w) w) w) else QfB y w
def Qct (e:Qxb) (w:Qxd):Bool:=!(e.Boot == 1000) && QN e.Keys w && (w.From == e.Peer) && (w.To == e.Name) && (decide (w.Boot > e.PeerBoot) || ((w.Boot == e.PeerBoot) && decide (w.Turn > e.PeerTurn)))
def helloHear (e:Qxb) (w:Qxd):Qxb:=if QeT e=true then (if Qct e w=true then listenY (Jy e w) w else e) else Qwj
structure Hr (x:Qxb):Prop where
  under:QT x.Under=true
  told:Ord idE x.Told
  tl:x.Told.length≤9
  heard:Ord rE x.Heard
  hl:x.Heard.length≤16
  got:0≤x.Got∧x.Got≤1000000
theorem QtO {e:Qxb} (h:QeT e=true):Hr e:=by
  have g:inR e.Got 0 1000000=true∧QT e.Under=true∧JY e.Told=true∧QcS e=true:=by
    simp only [QeT,Bool.and_eq_true] at h;exact ⟨h.1.1.1.1.1.1.1.1.1.1.1.1.2,h.1.1.1.1.1.2,h.1.1.2,h.2⟩
  obtain ⟨t1,t2⟩:=Qfn g.2.2.1;obtain ⟨h1,h2⟩:=Qoq g.2.2.2;exact ⟨g.2.1,t1,by omega,h1,h2,Jv.1 g.1⟩
theorem QhX {e:Qxb} (h:Hr e) (w:Qxd):Hr (Jy e w):=by
  unfold Jy;split
  · exact ⟨rfl,⟨List.Pairwise.nil,fun x hx=>by cases hx⟩,Nat.zero_le _,QqS h.heard,by simpa [QqQ,Qdv] using h.hl,⟨Int.le_refl _,by show (0:Int)≤1000000; decide⟩⟩
  · exact h
theorem Qr9 {e:Qxb} (h:Hr e) (w:Qxd):Hr (QfB e w):=⟨h.under,h.told,h.tl,h.heard,h.hl,h.got⟩
theorem Qsa {e:Qxb} (h:Hr e):J1 e=some (Qei e):=by
  have:=h.tl;unfold J1 Qei;rw [Qps (by omega) h.told,Qb]
  by_cases c:e.Under.Kind=3
  · rw [if_pos (by simpa using c),if_pos c]
  · rw [if_neg (by simpa using c),if_neg c]
theorem Qji {t:List Qxa} (h:t.length≤16) (c:Qw9):(Qcf t c).1.length≤16:=by
  have w3:=Qbz (f:=rE) t c.Entry;have ho:=fun k=>(QdR t k).length_le;have into:∀ s:List Qxa,(Qkg s c.Entry).length=s.length+1:=fun s=>by
    have:=Qbz (f:=rE) s c.Entry;simp [Qkg]; omega
  unfold Qcf Qpz;split
  · split
    · simpa using h
    · split
      · cases hf:JM t with
        | none=>exact h
        | some s =>
          have:=Qmn (ZF hf).1;dsimp only;rw [into];have:=(ZF hf).1;omega
      · dsimp only;rw [into];omega
  · split
    · dsimp only;split
      · have:=ho (posK rE t c.Entry); omega
      · exact h
    · exact Nat.le_trans (List.length_filter_le _ _) h
theorem QpC {z:Qxb} {w:Qxd} (h1:Ord rE z.Heard) (h2:z.Heard.length≤16) (h3:0≤z.Got∧z.Got≤1000000) (hc:QT w.Change=true):Quu z w=some (kept (JN z w)):=by
  have tl:=Qji h2 w.Change;unfold Quu JN;rw [Qc6 hc,wrap_i64 (by omega) (by omega),Qvm (by omega) h1,Qb]
  by_cases c:w.Change.Kind ≠ 0∧w.Num=z.Got+1
  · rw [if_pos (by simpa using c),if_pos c]
    cases ht:(Qcf z.Heard w.Change).2
    · rw [if_neg (by decide),if_neg (by decide),Qov (by exact Nat.le_trans h2 (by decide)),Qb]
    · rw [if_pos rfl,if_pos rfl,Qov (by exact Nat.le_trans tl (by decide)),Qb]
  · rw [if_neg (by simpa using c),if_neg c,Qov (by exact Nat.le_trans h2 (by decide)),Qb]
theorem Qsb {y:Qxb} {w:Qxd} (h:Hr y) (hc:QT w.Change=true):Qwl y w=some (listenY y w):=by
  have hu:=Qr9 h w;unfold Qwl listenY;rw [Qc6 h.under]
  by_cases c:w.Yours=y.Boot
  · rw [if_neg (by simpa using c),if_pos c];rw [show JE (QfB y w) w=if y.Under.Kind ≠ 0∧w.Heard=y.Num then Qei (QfB y w) else QfB y w from rfl]
    by_cases c2:y.Under.Kind ≠ 0∧w.Heard=y.Num
    · rw [if_pos (by simpa using c2),if_pos c2];refine (congrArg (fun m=>bd (bd m _) _) (Qsa hu)).trans ?_;rw [Qb,Qb];exact QpC (z:=Qei (QfB y w)) h.heard h.hl h.got hc
    · rw [if_neg (by simpa using c2),if_neg c2,Qb];exact QpC (z:=QfB y w) h.heard h.hl h.got hc
  · rw [if_pos (by simpa using c),if_neg c]
    rfl
theorem Qsc {e:Qxb} {w:Qxd} (h:Hr e) (hc:QT w.Change=true):Qbg e w=some (listenY (Jy e w) w):=by
  have hb:=QhX h w;have hl:=h.hl;unfold Qbg;unfold Jy at hb ⊢
  by_cases c:w.Boot > e.PeerBoot
  · rw [if_pos c] at hb;rw [if_pos (by simpa using c),if_pos c,Qom (by omega),Qb,Qb];exact Qsb hb hc
  · rw [if_neg c] at hb;rw [if_neg (by simpa using c),if_neg c,Qb];exact Qsb hb hc
theorem Qhf {y:Qxb} (h:Hr y) (w:Qxd):(listenY y w).Keys=y.Keys∧(listenY y w).Want=y.Want∧(listenY y w).Told.length≤10∧(listenY y w).Heard.length≤16:=by
  have hk:∀ z:Qxb,(kept z).Keys=z.Keys∧(kept z).Want=z.Want∧(kept z).Told=z.Told∧(kept z).Heard=z.Heard:=fun z=>by
    unfold kept;split <;> exact ⟨rfl,rfl,rfl,rfl⟩
  have hc:∀ z:Qxb,z.Heard.length≤16→(JN z w).Keys=z.Keys∧(JN z w).Want=z.Want∧(JN z w).Told=z.Told∧(JN z w).Heard.length≤16:=fun z hz=>by
    unfold JN;split
    · split
      · exact ⟨rfl,rfl,rfl,Qji hz _⟩
      · exact ⟨rfl,rfl,rfl,hz⟩
    · exact ⟨rfl,rfl,rfl,hz⟩
  have ha:(JE (QfB y w) w).Keys=y.Keys∧(JE (QfB y w) w).Want=y.Want∧(JE (QfB y w) w).Told.length≤10∧(JE (QfB y w) w).Heard=y.Heard:=by
    have tl:=h.tl;have al:=Qlt (t:=y.Told) y.Under;unfold JE;split
    · exact ⟨rfl,rfl,by show (JD y.Told y.Under).length≤10; omega,rfl⟩
    · exact ⟨rfl,rfl,by show y.Told.length≤10; omega,rfl⟩
  unfold listenY;split
  · obtain ⟨a1,a2,a3,a4⟩:=ha;obtain ⟨b1,b2,b3,b4⟩:=hc (JE (QfB y w) w) (by rw [a4]; exact h.hl);obtain ⟨d1,d2,d3,d4⟩:=hk (JN (JE (QfB y w) w) w);exact ⟨by rw [d1,b1,a1],by rw [d2,b2,a2],by rw [d3,b3]; exact a3,by rw [d4]; exact b4⟩
  · exact ⟨rfl,rfl,Nat.le_trans h.tl (by decide),h.hl⟩
theorem Qit {e:Qxb} {w:Qxd}:(Jy e w).Keys=e.Keys∧(Jy e w).Want=e.Want:=by
  unfold Jy;split <;> exact ⟨rfl,rfl⟩
theorem Qnq {ks:List Qw7} {w:Qxd} (h:QN ks w=true):QT w.Change=true:=by
  simp only [QN,Z4,Bool.and_eq_true] at h;exact h.1.2.1.2
theorem Qkh {e:Qxb} {w:Qxd} (h:Qct e w=true):QT w.Change=true:=by
  simp only [Qct,Bool.and_eq_true] at h;exact Qnq h.1.1.1.2
theorem Qow {e:Qxb} (h:Lens e 1048576) (w:Qxd):Qbh e w=some (helloHear e w):=by
  unfold Qbh helloHear;rw [Qlu h.k h.t,Qb]
  cases hok:QeT e
  · rfl
  · obtain ⟨l1,l2,l3,l4⟩:=Qir hok;have I:=QtO hok;have hb:=QhX I w;obtain ⟨t1,t2,t3,t4⟩:=Qhf hb w;obtain ⟨b1,b2⟩:=Qit (e:=e) (w:=w);rw [if_neg (by decide),if_pos rfl,Qhe h.k h.w h.t h.h,Qb,QhV h.k,Zf,Qb];have hv:Qct e w=(!(e.Boot == 1000) && QN e.Keys w && (w.From == e.Peer) && (w.To == e.Name) && (decide (w.Boot > e.PeerBoot) || ((w.Boot == e.PeerBoot) && decide (w.Turn > e.PeerTurn)))):=rfl;have hlt:(decide (w.Boot < e.PeerBoot) || ((w.Boot == e.PeerBoot) && decide (w.Turn≤e.PeerTurn)))=!(decide (w.Boot > e.PeerBoot) || ((w.Boot == e.PeerBoot) && decide (w.Turn > e.PeerTurn))):=by
      rw [Bool.eq_iff_iff];simp only [Bool.or_eq_true,Bool.and_eq_true,Bool.not_eq_true',Bool.or_eq_false_iff,Bool.and_eq_false_iff,decide_eq_true_eq,decide_eq_false_iff_not,beq_iff_eq,beq_eq_false_iff_ne];omega
    rw [hlt];split
    · rename_i c;have:Qct e w=false:=by rw [hv]; clear hlt hv; grind
      rw [this]; rfl
    · rename_i c;split
      · rename_i c2;have:Qct e w=false:=by rw [hv]; clear hlt hv; grind
        rw [this]; rfl
      · rename_i c2;have:Qct e w=true:=by rw [hv]; clear hlt hv; grind
        rw [this,if_pos rfl,Qsc I (Qkh this),Qb,Qhe (by rw [t1,b1]; exact h.k) (by rw [t2,b2]; exact h.w) (by omega) (by omega),Qb]
theorem Qvn {t:List Qxa} {c:Qw9} (h:(Qcf t c).2=false):(Qcf t c).1=t∧c.Kind=1:=by
  unfold Qcf at *
  by_cases c1:c.Kind=1
  · rw [if_pos c1] at *;refine ⟨?_,c1⟩;unfold Qpz at *
    by_cases c2:Qbd rE t c.Entry=true
    · rw [if_pos c2] at h; cases h
    · rw [if_neg c2] at *
      by_cases c3:t.length=16
      · rw [if_pos c3] at *
        cases hf:JM t with
        | none=>rfl
        | some s=>rw [hf] at h; cases h
      · rw [if_neg c3] at h; cases h
  · rw [if_neg c1] at h
    by_cases c2:c.Kind=2
    · rw [if_pos c2] at h; cases h
    · rw [if_neg c2] at h; cases h
theorem Qwm {e:Qxb} (h:e.Keys.length≤1048576) (w:Qxd):JV e w=some (Qct e w):=by
  have hv:Qct e w=(!(e.Boot == 1000) && QN e.Keys w && (w.From == e.Peer) && (w.To == e.Name) && (decide (w.Boot > e.PeerBoot) || ((w.Boot == e.PeerBoot) && decide (w.Turn > e.PeerTurn)))):=rfl;unfold JV ZQ;rw [Qb,Qpx h,Zf,Qb];split
  · rename_i c;have:Qct e w=false:=by rw [hv]; clear hv; grind
    rw [this]
  · rename_i c
    congr 1
    rw [hv]; clear hv; grind
theorem Qhg {y:Qxb} {w:Qxd}:(listenY y w).Name=y.Name∧(listenY y w).Peer=y.Peer∧(listenY y w).Boot=y.Boot∧(listenY y w).Turn=y.Turn:=by
  have hk:∀ z:Qxb,(kept z).Name=z.Name∧(kept z).Peer=z.Peer∧(kept z).Boot=z.Boot∧(kept z).Turn=z.Turn:=fun z=>by
    unfold kept;split <;> exact ⟨rfl,rfl,rfl,rfl⟩
  have hc:∀ z:Qxb,(JN z w).Name=z.Name∧(JN z w).Peer=z.Peer∧(JN z w).Boot=z.Boot∧(JN z w).Turn=z.Turn:=fun z=>by
    unfold JN;split
    · split <;> exact ⟨rfl,rfl,rfl,rfl⟩
    · exact ⟨rfl,rfl,rfl,rfl⟩
  have ha:(JE (QfB y w) w).Name=y.Name∧(JE (QfB y w) w).Peer=y.Peer∧(JE (QfB y w) w).Boot=y.Boot∧(JE (QfB y w) w).Turn=y.Turn:=by
    unfold JE;split <;> exact ⟨rfl,rfl,rfl,rfl⟩
  unfold listenY;split
  · obtain ⟨a1,a2,a3,a4⟩:=ha;obtain ⟨b1,b2,b3,b4⟩:=hc (JE (QfB y w) w);obtain ⟨d1,d2,d3,d4⟩:=hk (JN (JE (QfB y w) w) w);exact ⟨by rw [d1,b1,a1],by rw [d2,b2,a2],by rw [d3,b3,a3],by rw [d4,b4,a4]⟩
  · exact ⟨rfl,rfl,rfl,rfl⟩
end Go.Proofs.YtjgjdobkahdgfaaGreat
