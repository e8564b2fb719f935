/-
  Plain Lean: an end hears a word, the program's and the reference's alike; the row FnExactHelloHear.
-/
import Derived.Test.YtjgjdobkahdgfaaGreatKz5
import Derived.Test.YtjgjdobkahdgfaaGreatHelVz
import Derived.Test.YtjgjdobkahdgfaaGreatArgz
set_option linter.all false
namespace Go.Proofs.YtjgjdobkahdgfaaGreat
open Go Go.Ab
set_option maxHeartbeats 2000000
set_option maxRecDepth 100000
noncomputable def QuE (z:Qxp) (w:Qxr):Option Qxp :=
(if ((decide (w.Change.Kind > 0)) && (w.Num == (IntKind.i64.wrap (z.Got+1))))=true then
 bd (QaT z.Heard w.Change) fun x9 =>
(if x9.2=true then
 bd (ZD (⟨z.Name,z.Peer,z.Keys,z.Boot,z.Want,z.Turn,z.PeerBoot,z.PeerTurn,z.Up,z.Left,z.Num,(⟨z.Under.Kind,(⟨z.Under.Entry.Addr,z.Under.Entry.Len,z.Under.Entry.Cost,z.Under.Entry.Label⟩:Qxm)⟩:Qxn),z.Told,z.All,w.Num,(z.Full || (w.Change.Kind == 3)),x9.1,z.Keep⟩:Qxp)) fun x10 =>
 some x10
else
 bd (ZD (⟨z.Name,z.Peer,z.Keys,z.Boot,z.Want,z.Turn,z.PeerBoot,z.PeerTurn,z.Up,z.Left,z.Num,(⟨z.Under.Kind,(⟨z.Under.Entry.Addr,z.Under.Entry.Len,z.Under.Entry.Cost,z.Under.Entry.Label⟩:Qxm)⟩:Qxn),z.Told,z.All,z.Got,z.Full,z.Heard,z.Keep⟩:Qxp)) fun x11 =>
 some x11)
else
 bd (ZD (⟨z.Name,z.Peer,z.Keys,z.Boot,z.Want,z.Turn,z.PeerBoot,z.PeerTurn,z.Up,z.Left,z.Num,(⟨z.Under.Kind,(⟨z.Under.Entry.Addr,z.Under.Entry.Len,z.Under.Entry.Cost,z.Under.Entry.Label⟩:Qxm)⟩:Qxn),z.Told,z.All,z.Got,z.Full,z.Heard,z.Keep⟩:Qxp)) fun x12 =>
 some x12)
noncomputable def Qwz (y:Qxp) (w:Qxr):Option Qxp :=
(if (!(w.Yours == y.Boot))=true then
 some (⟨y.Name,y.Peer,y.Keys,y.Boot,y.Want,y.Turn,y.PeerBoot,w.Turn,(w.Yours == y.Boot),4,y.Num,(⟨y.Under.Kind,(⟨y.Under.Entry.Addr,y.Under.Entry.Len,y.Under.Entry.Cost,y.Under.Entry.Label⟩:Qxm)⟩:Qxn),y.Told,y.All,y.Got,y.Full,y.Heard,y.Keep⟩:Qxp)
else
 bd (α:=Int × Int × Int × Int × Int × Int × Int × Int × List Qxm × Bool × Int × Bool × List Qxl × List Qxo × Int × Int × List Qxm × Int × Int × Int × Bool × Int) ((if ((decide (y.Under.Kind > 0)) && (w.Heard == y.Num))=true then
 bd (J4 (⟨y.Name,y.Peer,y.Keys,y.Boot,y.Want,y.Turn,y.PeerBoot,w.Turn,(w.Yours == y.Boot),4,y.Num,(⟨y.Under.Kind,(⟨y.Under.Entry.Addr,y.Under.Entry.Len,y.Under.Entry.Cost,y.Under.Entry.Label⟩:Qxm)⟩:Qxn),y.Told,y.All,y.Got,y.Full,y.Heard,y.Keep⟩:Qxp)) fun x8 =>
 some (x8.Name,x8.Peer,x8.Num,x8.Under.Kind,x8.Under.Entry.Addr,x8.Under.Entry.Len,x8.Under.Entry.Cost,x8.Under.Entry.Label,x8.Told,x8.All,x8.Got,x8.Full,x8.Keys,x8.Heard,x8.Keep,x8.Boot,x8.Want,x8.Turn,x8.PeerBoot,x8.PeerTurn,x8.Up,x8.Left)
else
 some (y.Name,y.Peer,y.Num,y.Under.Kind,y.Under.Entry.Addr,y.Under.Entry.Len,y.Under.Entry.Cost,y.Under.Entry.Label,y.Told,y.All,y.Got,y.Full,y.Keys,y.Heard,y.Keep,y.Boot,y.Want,y.Turn,y.PeerBoot,w.Turn,(w.Yours == y.Boot),4))) fun x5 =>
(if ((decide (w.Change.Kind > 0)) && (w.Num == (IntKind.i64.wrap (x5.2.2.2.2.2.2.2.2.2.2.1+1))))=true then
 bd (QaT x5.2.2.2.2.2.2.2.2.2.2.2.2.2.1 w.Change) fun x9 =>
(if x9.2=true then
 bd (ZD (⟨x5.1,x5.2.1,x5.2.2.2.2.2.2.2.2.2.2.2.2.1,x5.2.2.2.2.2.2.2.2.2.2.2.2.2.2.2.1,x5.2.2.2.2.2.2.2.2.2.2.2.2.2.2.2.2.1,x5.2.2.2.2.2.2.2.2.2.2.2.2.2.2.2.2.2.1,x5.2.2.2.2.2.2.2.2.2.2.2.2.2.2.2.2.2.2.1,x5.2.2.2.2.2.2.2.2.2.2.2.2.2.2.2.2.2.2.2.1,x5.2.2.2.2.2.2.2.2.2.2.2.2.2.2.2.2.2.2.2.2.1,x5.2.2.2.2.2.2.2.2.2.2.2.2.2.2.2.2.2.2.2.2.2,x5.2.2.1,(⟨x5.2.2.2.1,(⟨x5.2.2.2.2.1,x5.2.2.2.2.2.1,x5.2.2.2.2.2.2.1,x5.2.2.2.2.2.2.2.1⟩:Qxm)⟩:Qxn),x5.2.2.2.2.2.2.2.2.1,x5.2.2.2.2.2.2.2.2.2.1,w.Num,(x5.2.2.2.2.2.2.2.2.2.2.2.1 || (w.Change.Kind == 3)),x9.1,x5.2.2.2.2.2.2.2.2.2.2.2.2.2.2.1⟩:Qxp)) fun x10 =>
 some x10
else
 bd (ZD (⟨x5.1,x5.2.1,x5.2.2.2.2.2.2.2.2.2.2.2.2.1,x5.2.2.2.2.2.2.2.2.2.2.2.2.2.2.2.1,x5.2.2.2.2.2.2.2.2.2.2.2.2.2.2.2.2.1,x5.2.2.2.2.2.2.2.2.2.2.2.2.2.2.2.2.2.1,x5.2.2.2.2.2.2.2.2.2.2.2.2.2.2.2.2.2.2.1,x5.2.2.2.2.2.2.2.2.2.2.2.2.2.2.2.2.2.2.2.1,x5.2.2.2.2.2.2.2.2.2.2.2.2.2.2.2.2.2.2.2.2.1,x5.2.2.2.2.2.2.2.2.2.2.2.2.2.2.2.2.2.2.2.2.2,x5.2.2.1,(⟨x5.2.2.2.1,(⟨x5.2.2.2.2.1,x5.2.2.2.2.2.1,x5.2.2.2.2.2.2.1,x5.2.2.2.2.2.2.2.1⟩:Qxm)⟩:Qxn),x5.2.2.2.2.2.2.2.2.1,x5.2.2.2.2.2.2.2.2.2.1,x5.2.2.2.2.2.2.2.2.2.2.1,x5.2.2.2.2.2.2.2.2.2.2.2.1,x5.2.2.2.2.2.2.2.2.2.2.2.2.2.1,x5.2.2.2.2.2.2.2.2.2.2.2.2.2.2.1⟩:Qxp)) fun x11 =>
 some x11)
else
 bd (ZD (⟨x5.1,x5.2.1,x5.2.2.2.2.2.2.2.2.2.2.2.2.1,x5.2.2.2.2.2.2.2.2.2.2.2.2.2.2.2.1,x5.2.2.2.2.2.2.2.2.2.2.2.2.2.2.2.2.1,x5.2.2.2.2.2.2.2.2.2.2.2.2.2.2.2.2.2.1,x5.2.2.2.2.2.2.2.2.2.2.2.2.2.2.2.2.2.2.1,x5.2.2.2.2.2.2.2.2.2.2.2.2.2.2.2.2.2.2.2.1,x5.2.2.2.2.2.2.2.2.2.2.2.2.2.2.2.2.2.2.2.2.1,x5.2.2.2.2.2.2.2.2.2.2.2.2.2.2.2.2.2.2.2.2.2,x5.2.2.1,(⟨x5.2.2.2.1,(⟨x5.2.2.2.2.1,x5.2.2.2.2.2.1,x5.2.2.2.2.2.2.1,x5.2.2.2.2.2.2.2.1⟩:Qxm)⟩:Qxn),x5.2.2.2.2.2.2.2.2.1,x5.2.2.2.2.2.2.2.2.2.1,x5.2.2.2.2.2.2.2.2.2.2.1,x5.2.2.2.2.2.2.2.2.2.2.2.1,x5.2.2.2.2.2.2.2.2.2.2.2.2.2.1,x5.2.2.2.2.2.2.2.2.2.2.2.2.2.2.1⟩:Qxp)) fun x12 =>
 some x12))
def JB (e:Qxp) (w:Qxr):Qxp:=if w.Boot > e.PeerBoot then { Qq6 e with PeerBoot:=w.Boot } else e
def QfO (y:Qxp) (w:Qxr):Qxp:={ y with PeerTurn:=w.Turn,Up:=(w.Yours == y.Boot),Left:=4 }
def Qeq (e:Qxp):Qxp:={ e with Under:=⟨0,⟨0,0,0,0⟩⟩,Told:=JG e.Told e.Under,All:=if e.Under.Kind=3 then true else e.All }
def JH (e:Qxp) (w:Qxr):Qxp:=if e.Under.Kind ≠ 0∧w.Heard=e.Num then Qeq e else e
def JS (e:Qxp) (w:Qxr):Qxp:=if w.Change.Kind ≠ 0∧w.Num=e.Got+1 then (if (Qcm e.Heard w.Change).2=true then { e with Heard:=(Qcm e.Heard w.Change).1,Got:=w.Num,Full:=e.Full || (w.Change.Kind == 3) } else e) else e
def listenY (y:Qxp) (w:Qxr):Qxp:=if w.Yours=y.Boot then kept (JS (JH (QfO y w) w) w) else QfO y w
def QcB (e:Qxp) (w:Qxr):Bool:=!(e.Boot == 1000) && QP e.Keys w && (w.From == e.Peer) && (w.To == e.Name) && (decide (w.Boot > e.PeerBoot) || ((w.Boot == e.PeerBoot) && decide (w.Turn > e.PeerTurn)))
def helloHear (e:Qxp) (w:Qxr):Qxp:=if QfN e=true then (if QcB e w=true then listenY (JB e w) w else e) else Qwx
structure Hr (x:Qxp):Prop where
  under:QV x.Under=true
  told:Ord idE x.Told
  tl:x.Told.length≤9
  heard:Ord rE x.Heard
  hl:x.Heard.length≤16
  got:0≤x.Got∧x.Got≤1000000
theorem QtZ {e:Qxp} (h:QfN e=true):Hr e:=by
  have g:inR e.Got 0 1000000=true∧QV e.Under=true∧J1 e.Told=true∧Qc4 e=true:=by
    simp only [QfN,Bool.and_eq_true] at h;exact ⟨h.1.1.1.1.1.1.1.1.1.1.1.1.2,h.1.1.1.1.1.2,h.1.1.2,h.2⟩
  obtain ⟨t1,t2⟩:=Qfw g.2.2.1;obtain ⟨h1,h2⟩:=QoF g.2.2.2;exact ⟨g.2.1,t1,by omega,h1,h2,Jz.1 g.1⟩
theorem Qh6 {e:Qxp} (h:Hr e) (w:Qxr):Hr (JB e w):=by
  unfold JB;split
  · exact ⟨rfl,⟨List.Pairwise.nil,fun x hx=>by cases hx⟩,Nat.zero_le _,Qq8 h.heard,by simpa [Qq6,QdG] using h.hl,⟨Int.le_refl _,by show (0:Int)≤1000000; decide⟩⟩
  · exact h
theorem Qsn {e:Qxp} (h:Hr e) (w:Qxr):Hr (QfO e w):=⟨h.under,h.told,h.tl,h.heard,h.hl,h.got⟩
theorem Qso {e:Qxp} (h:Hr e):J4 e=some (Qeq e):=by
  have:=h.tl;unfold J4 Qeq;rw [QpH (by omega) h.told,Qb]
  by_cases c:e.Under.Kind=3
  · rw [if_pos (by simpa using c),if_pos c]
  · rw [if_neg (by simpa using c),if_neg c]
theorem Qjt {t:List Qxo} (h:t.length≤16) (c:Qxn):(Qcm t c).1.length≤16:=by
  have w3:=QbG (f:=rE) t c.Entry;have ho:=fun k=>(Qd0 t k).length_le;have into:∀ s:List Qxo,(Qks s c.Entry).length=s.length+1:=fun s=>by
    have:=QbG (f:=rE) s c.Entry;simp [Qks]; omega
  unfold Qcm QpO;split
  · split
    · simpa using h
    · split
      · cases hf:JR t with
        | none=>exact h
        | some s =>
          have:=QmC (ZK hf).1;dsimp only;rw [into];have:=(ZK hf).1;omega
      · dsimp only;rw [into];omega
  · split
    · dsimp only;split
      · have:=ho (posK rE t c.Entry); omega
      · exact h
    · exact Nat.le_trans (List.length_filter_le _ _) h
theorem QpR {z:Qxp} {w:Qxr} (h1:Ord rE z.Heard) (h2:z.Heard.length≤16) (h3:0≤z.Got∧z.Got≤1000000) (hc:QV w.Change=true):QuE z w=some (kept (JS z w)):=by
  have tl:=Qjt h2 w.Change;unfold QuE JS;rw [Qdj hc,wrap_i64 (by omega) (by omega),Qvw (by omega) h1,Qb]
  by_cases c:w.Change.Kind ≠ 0∧w.Num=z.Got+1
  · rw [if_pos (by simpa using c),if_pos c]
    cases ht:(Qcm z.Heard w.Change).2
    · rw [if_neg (by decide),if_neg (by decide),QoK (by exact Nat.le_trans h2 (by decide)),Qb]
    · rw [if_pos rfl,if_pos rfl,QoK (by exact Nat.le_trans tl (by decide)),Qb]
  · rw [if_neg (by simpa using c),if_neg c,QoK (by exact Nat.le_trans h2 (by decide)),Qb]
theorem Qsp {y:Qxp} {w:Qxr} (h:Hr y) (hc:QV w.Change=true):Qwz y w=some (listenY y w):=by
  have hu:=Qsn h w;unfold Qwz listenY;rw [Qdj h.under]
  by_cases c:w.Yours=y.Boot
  · rw [if_neg (by simpa using c),if_pos c];rw [show JH (QfO y w) w=if y.Under.Kind ≠ 0∧w.Heard=y.Num then Qeq (QfO y w) else QfO y w from rfl]
    by_cases c2:y.Under.Kind ≠ 0∧w.Heard=y.Num
    · rw [if_pos (by simpa using c2),if_pos c2];refine (congrArg (fun m=>bd (bd m _) _) (Qso hu)).trans ?_;rw [Qb,Qb];exact QpR (z:=Qeq (QfO y w)) h.heard h.hl h.got hc
    · rw [if_neg (by simpa using c2),if_neg c2,Qb];exact QpR (z:=QfO y w) h.heard h.hl h.got hc
  · rw [if_pos (by simpa using c),if_neg c]
    rfl
theorem Qsq {e:Qxp} {w:Qxr} (h:Hr e) (hc:QV w.Change=true):Qbn e w=some (listenY (JB e w) w):=by
  have hb:=Qh6 h w;have hl:=h.hl;unfold Qbn;unfold JB at hb ⊢
  by_cases c:w.Boot > e.PeerBoot
  · rw [if_pos c] at hb;rw [if_pos (by simpa using c),if_pos c,QoA (by omega),Qb,Qb];exact Qsp hb hc
  · rw [if_neg c] at hb;rw [if_neg (by simpa using c),if_neg c,Qb];exact Qsp hb hc
theorem Qhr {y:Qxp} (h:Hr y) (w:Qxr):(listenY y w).Keys=y.Keys∧(listenY y w).Want=y.Want∧(listenY y w).Told.length≤10∧(listenY y w).Heard.length≤16:=by
  have hk:∀ z:Qxp,(kept z).Keys=z.Keys∧(kept z).Want=z.Want∧(kept z).Told=z.Told∧(kept z).Heard=z.Heard:=fun z=>by
    unfold kept;split <;> exact ⟨rfl,rfl,rfl,rfl⟩
  have hc:∀ z:Qxp,z.Heard.length≤16→(JS z w).Keys=z.Keys∧(JS z w).Want=z.Want∧(JS z w).Told=z.Told∧(JS z w).Heard.length≤16:=fun z hz=>by
    unfold JS;split
    · split
      · exact ⟨rfl,rfl,rfl,Qjt hz _⟩
      · exact ⟨rfl,rfl,rfl,hz⟩
    · exact ⟨rfl,rfl,rfl,hz⟩
  have ha:(JH (QfO y w) w).Keys=y.Keys∧(JH (QfO y w) w).Want=y.Want∧(JH (QfO y w) w).Told.length≤10∧(JH (QfO y w) w).Heard=y.Heard:=by
    have tl:=h.tl;have al:=QlG (t:=y.Told) y.Under;unfold JH;split
    · exact ⟨rfl,rfl,by show (JG y.Told y.Under).length≤10; omega,rfl⟩
    · exact ⟨rfl,rfl,by show y.Told.length≤10; omega,rfl⟩
  unfold listenY;split
  · obtain ⟨a1,a2,a3,a4⟩:=ha;obtain ⟨b1,b2,b3,b4⟩:=hc (JH (QfO y w) w) (by rw [a4]; exact h.hl);obtain ⟨d1,d2,d3,d4⟩:=hk (JS (JH (QfO y w) w) w);exact ⟨by rw [d1,b1,a1],by rw [d2,b2,a2],by rw [d3,b3]; exact a3,by rw [d4]; exact b4⟩
  · exact ⟨rfl,rfl,Nat.le_trans h.tl (by decide),h.hl⟩
theorem QiC {e:Qxp} {w:Qxr}:(JB e w).Keys=e.Keys∧(JB e w).Want=e.Want:=by
  unfold JB;split <;> exact ⟨rfl,rfl⟩
theorem QnH {ks:List Qxl} {w:Qxr} (h:QP ks w=true):QV w.Change=true:=by
  simp only [QP,Jb,Bool.and_eq_true] at h;exact h.1.2.1.2
theorem Qkt {e:Qxp} {w:Qxr} (h:QcB e w=true):QV w.Change=true:=by
  simp only [QcB,Bool.and_eq_true] at h;exact QnH h.1.1.1.2
theorem QoL {e:Qxp} (h:Lens e 1048576) (w:Qxr):Qbo e w=some (helloHear e w):=by
  unfold Qbo helloHear;rw [QlH h.k h.t,Qb]
  cases hok:QfN e
  · rfl
  · obtain ⟨l1,l2,l3,l4⟩:=QiA hok;have I:=QtZ hok;have hb:=Qh6 I w;obtain ⟨t1,t2,t3,t4⟩:=Qhr hb w;obtain ⟨b1,b2⟩:=QiC (e:=e) (w:=w);rw [if_neg (by decide),if_pos rfl,Qhq h.k h.w h.t h.h,Qb,Qh4 h.k,Zi,Qb];have hv:QcB e w=(!(e.Boot == 1000) && QP e.Keys w && (w.From == e.Peer) && (w.To == e.Name) && (decide (w.Boot > e.PeerBoot) || ((w.Boot == e.PeerBoot) && decide (w.Turn > e.PeerTurn)))):=rfl;have hlt:(decide (w.Boot < e.PeerBoot) || ((w.Boot == e.PeerBoot) && decide (w.Turn≤e.PeerTurn)))=!(decide (w.Boot > e.PeerBoot) || ((w.Boot == e.PeerBoot) && decide (w.Turn > e.PeerTurn))):=by
      rw [Bool.eq_iff_iff];simp only [Bool.or_eq_true,Bool.and_eq_true,Bool.not_eq_true',Bool.or_eq_false_iff,Bool.and_eq_false_iff,decide_eq_true_eq,decide_eq_false_iff_not,beq_iff_eq,beq_eq_false_iff_ne];omega
    rw [hlt];split
    · rename_i c;have:QcB e w=false:=by rw [hv]; clear hlt hv; grind
      rw [this]; rfl
    · rename_i c;split
      · rename_i c2;have:QcB e w=false:=by rw [hv]; clear hlt hv; grind
        rw [this]; rfl
      · rename_i c2;have:QcB e w=true:=by rw [hv]; clear hlt hv; grind
        rw [this,if_pos rfl,Qsq I (Qkt this),Qb,Qhq (by rw [t1,b1]; exact h.k) (by rw [t2,b2]; exact h.w) (by omega) (by omega),Qb]
theorem Qvx {t:List Qxo} {c:Qxn} (h:(Qcm t c).2=false):(Qcm t c).1=t∧c.Kind=1:=by
  unfold Qcm at *
  by_cases c1:c.Kind=1
  · rw [if_pos c1] at *;refine ⟨?_,c1⟩;unfold QpO at *
    by_cases c2:Qbk rE t c.Entry=true
    · rw [if_pos c2] at h; cases h
    · rw [if_neg c2] at *
      by_cases c3:t.length=16
      · rw [if_pos c3] at *
        cases hf:JR t with
        | none=>rfl
        | some s=>rw [hf] at h; cases h
      · rw [if_neg c3] at h; cases h
  · rw [if_neg c1] at h
    by_cases c2:c.Kind=2
    · rw [if_pos c2] at h; cases h
    · rw [if_neg c2] at h; cases h
theorem QwA {e:Qxp} (h:e.Keys.length≤1048576) (w:Qxr):JZ e w=some (QcB e w):=by
  have hv:QcB e w=(!(e.Boot == 1000) && QP e.Keys w && (w.From == e.Peer) && (w.To == e.Name) && (decide (w.Boot > e.PeerBoot) || ((w.Boot == e.PeerBoot) && decide (w.Turn > e.PeerTurn)))):=rfl;unfold JZ ZU;rw [Qb,QpM h,Zi,Qb];split
  · rename_i c;have:QcB e w=false:=by rw [hv]; clear hv; grind
    rw [this]
  · rename_i c
    congr 1
    rw [hv]; clear hv; grind
theorem Qhs {y:Qxp} {w:Qxr}:(listenY y w).Name=y.Name∧(listenY y w).Peer=y.Peer∧(listenY y w).Boot=y.Boot∧(listenY y w).Turn=y.Turn:=by
  have hk:∀ z:Qxp,(kept z).Name=z.Name∧(kept z).Peer=z.Peer∧(kept z).Boot=z.Boot∧(kept z).Turn=z.Turn:=fun z=>by
    unfold kept;split <;> exact ⟨rfl,rfl,rfl,rfl⟩
  have hc:∀ z:Qxp,(JS z w).Name=z.Name∧(JS z w).Peer=z.Peer∧(JS z w).Boot=z.Boot∧(JS z w).Turn=z.Turn:=fun z=>by
    unfold JS;split
    · split <;> exact ⟨rfl,rfl,rfl,rfl⟩
    · exact ⟨rfl,rfl,rfl,rfl⟩
  have ha:(JH (QfO y w) w).Name=y.Name∧(JH (QfO y w) w).Peer=y.Peer∧(JH (QfO y w) w).Boot=y.Boot∧(JH (QfO y w) w).Turn=y.Turn:=by
    unfold JH;split <;> exact ⟨rfl,rfl,rfl,rfl⟩
  unfold listenY;split
  · obtain ⟨a1,a2,a3,a4⟩:=ha;obtain ⟨b1,b2,b3,b4⟩:=hc (JH (QfO y w) w);obtain ⟨d1,d2,d3,d4⟩:=hk (JS (JH (QfO y w) w) w);exact ⟨by rw [d1,b1,a1],by rw [d2,b2,a2],by rw [d3,b3,a3],by rw [d4,b4,a4]⟩
  · exact ⟨rfl,rfl,rfl,rfl⟩
end Go.Proofs.YtjgjdobkahdgfaaGreat
