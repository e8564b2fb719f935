/-
  Plain Lean: an end hears a word, the program's and the reference's alike; the row FnExactHelloHear.
-/
import Derived.Test.YtjgjdobkahdgfaaGreatKz5
import Derived.Test.YtjgjdobkahdgfaaGreatHelVz
import Derived.Test.YtjgjdobkahdgfaaGreatArgz
set_option linter.all false
namespace Go.Proofs.YtjgjdobkahdgfaaGreat
open Go Go.Ab
set_option maxHeartbeats 2000000
set_option maxRecDepth 100000
noncomputable def QtG (z:Qwj) (w:Qwl):Option Qwj :=
(if ((decide (w.Change.Kind > 0)) && (w.Num == (IntKind.i64.wrap (z.Got+1))))=true then
 bd (Qaz z.Heard w.Change) fun x9 =>
(if x9.2=true then
 bd (Zw (⟨z.Name,z.Peer,z.Keys,z.Boot,z.Want,z.Turn,z.PeerBoot,z.PeerTurn,z.Up,z.Left,z.Num,(⟨z.Under.Kind,(⟨z.Under.Entry.Addr,z.Under.Entry.Len,z.Under.Entry.Cost,z.Under.Entry.Label⟩:Qwg)⟩:Qwh),z.Told,z.All,w.Num,(z.Full || (w.Change.Kind == 3)),x9.1,z.Keep⟩:Qwj)) fun x10 =>
 some x10
else
 bd (Zw (⟨z.Name,z.Peer,z.Keys,z.Boot,z.Want,z.Turn,z.PeerBoot,z.PeerTurn,z.Up,z.Left,z.Num,(⟨z.Under.Kind,(⟨z.Under.Entry.Addr,z.Under.Entry.Len,z.Under.Entry.Cost,z.Under.Entry.Label⟩:Qwg)⟩:Qwh),z.Told,z.All,z.Got,z.Full,z.Heard,z.Keep⟩:Qwj)) fun x11 =>
 some x11)
else
 bd (Zw (⟨z.Name,z.Peer,z.Keys,z.Boot,z.Want,z.Turn,z.PeerBoot,z.PeerTurn,z.Up,z.Left,z.Num,(⟨z.Under.Kind,(⟨z.Under.Entry.Addr,z.Under.Entry.Len,z.Under.Entry.Cost,z.Under.Entry.Label⟩:Qwg)⟩:Qwh),z.Told,z.All,z.Got,z.Full,z.Heard,z.Keep⟩:Qwj)) fun x12 =>
 some x12)
noncomputable def Qvx (y:Qwj) (w:Qwl):Option Qwj :=
(if (!(w.Yours == y.Boot))=true then
 some (⟨y.Name,y.Peer,y.Keys,y.Boot,y.Want,y.Turn,y.PeerBoot,w.Turn,(w.Yours == y.Boot),4,y.Num,(⟨y.Under.Kind,(⟨y.Under.Entry.Addr,y.Under.Entry.Len,y.Under.Entry.Cost,y.Under.Entry.Label⟩:Qwg)⟩:Qwh),y.Told,y.All,y.Got,y.Full,y.Heard,y.Keep⟩:Qwj)
else
 bd (α:=Int × Int × Int × Int × Int × Int × Int × Int × List Qwg × Bool × Int × Bool × List Qwf × List Qwi × Int × Int × List Qwg × Int × Int × Int × Bool × Int) ((if ((decide (y.Under.Kind > 0)) && (w.Heard == y.Num))=true then
 bd (JL (⟨y.Name,y.Peer,y.Keys,y.Boot,y.Want,y.Turn,y.PeerBoot,w.Turn,(w.Yours == y.Boot),4,y.Num,(⟨y.Under.Kind,(⟨y.Under.Entry.Addr,y.Under.Entry.Len,y.Under.Entry.Cost,y.Under.Entry.Label⟩:Qwg)⟩:Qwh),y.Told,y.All,y.Got,y.Full,y.Heard,y.Keep⟩:Qwj)) fun x8 =>
 some (x8.Name,x8.Peer,x8.Num,x8.Under.Kind,x8.Under.Entry.Addr,x8.Under.Entry.Len,x8.Under.Entry.Cost,x8.Under.Entry.Label,x8.Told,x8.All,x8.Got,x8.Full,x8.Keys,x8.Heard,x8.Keep,x8.Boot,x8.Want,x8.Turn,x8.PeerBoot,x8.PeerTurn,x8.Up,x8.Left)
else
 some (y.Name,y.Peer,y.Num,y.Under.Kind,y.Under.Entry.Addr,y.Under.Entry.Len,y.Under.Entry.Cost,y.Under.Entry.Label,y.Told,y.All,y.Got,y.Full,y.Keys,y.Heard,y.Keep,y.Boot,y.Want,y.Turn,y.PeerBoot,w.Turn,(w.Yours == y.Boot),4))) fun x5 =>
(if ((decide (w.Change.Kind > 0)) && (w.Num == (IntKind.i64.wrap (x5.2.2.2.2.2.2.2.2.2.2.1+1))))=true then
 bd (Qaz x5.2.2.2.2.2.2.2.2.2.2.2.2.2.1 w.Change) fun x9 =>
(if x9.2=true then
 bd (Zw (⟨x5.1,x5.2.1,x5.2.2.2.2.2.2.2.2.2.2.2.2.1,x5.2.2.2.2.2.2.2.2.2.2.2.2.2.2.2.1,x5.2.2.2.2.2.2.2.2.2.2.2.2.2.2.2.2.1,x5.2.2.2.2.2.2.2.2.2.2.2.2.2.2.2.2.2.1,x5.2.2.2.2.2.2.2.2.2.2.2.2.2.2.2.2.2.2.1,x5.2.2.2.2.2.2.2.2.2.2.2.2.2.2.2.2.2.2.2.1,x5.2.2.2.2.2.2.2.2.2.2.2.2.2.2.2.2.2.2.2.2.1,x5.2.2.2.2.2.2.2.2.2.2.2.2.2.2.2.2.2.2.2.2.2,x5.2.2.1,(⟨x5.2.2.2.1,(⟨x5.2.2.2.2.1,x5.2.2.2.2.2.1,x5.2.2.2.2.2.2.1,x5.2.2.2.2.2.2.2.1⟩:Qwg)⟩:Qwh),x5.2.2.2.2.2.2.2.2.1,x5.2.2.2.2.2.2.2.2.2.1,w.Num,(x5.2.2.2.2.2.2.2.2.2.2.2.1 || (w.Change.Kind == 3)),x9.1,x5.2.2.2.2.2.2.2.2.2.2.2.2.2.2.1⟩:Qwj)) fun x10 =>
 some x10
else
 bd (Zw (⟨x5.1,x5.2.1,x5.2.2.2.2.2.2.2.2.2.2.2.2.1,x5.2.2.2.2.2.2.2.2.2.2.2.2.2.2.2.1,x5.2.2.2.2.2.2.2.2.2.2.2.2.2.2.2.2.1,x5.2.2.2.2.2.2.2.2.2.2.2.2.2.2.2.2.2.1,x5.2.2.2.2.2.2.2.2.2.2.2.2.2.2.2.2.2.2.1,x5.2.2.2.2.2.2.2.2.2.2.2.2.2.2.2.2.2.2.2.1,x5.2.2.2.2.2.2.2.2.2.2.2.2.2.2.2.2.2.2.2.2.1,x5.2.2.2.2.2.2.2.2.2.2.2.2.2.2.2.2.2.2.2.2.2,x5.2.2.1,(⟨x5.2.2.2.1,(⟨x5.2.2.2.2.1,x5.2.2.2.2.2.1,x5.2.2.2.2.2.2.1,x5.2.2.2.2.2.2.2.1⟩:Qwg)⟩:Qwh),x5.2.2.2.2.2.2.2.2.1,x5.2.2.2.2.2.2.2.2.2.1,x5.2.2.2.2.2.2.2.2.2.2.1,x5.2.2.2.2.2.2.2.2.2.2.2.1,x5.2.2.2.2.2.2.2.2.2.2.2.2.2.1,x5.2.2.2.2.2.2.2.2.2.2.2.2.2.2.1⟩:Qwj)) fun x11 =>
 some x11)
else
 bd (Zw (⟨x5.1,x5.2.1,x5.2.2.2.2.2.2.2.2.2.2.2.2.1,x5.2.2.2.2.2.2.2.2.2.2.2.2.2.2.2.1,x5.2.2.2.2.2.2.2.2.2.2.2.2.2.2.2.2.1,x5.2.2.2.2.2.2.2.2.2.2.2.2.2.2.2.2.2.1,x5.2.2.2.2.2.2.2.2.2.2.2.2.2.2.2.2.2.2.1,x5.2.2.2.2.2.2.2.2.2.2.2.2.2.2.2.2.2.2.2.1,x5.2.2.2.2.2.2.2.2.2.2.2.2.2.2.2.2.2.2.2.2.1,x5.2.2.2.2.2.2.2.2.2.2.2.2.2.2.2.2.2.2.2.2.2,x5.2.2.1,(⟨x5.2.2.2.1,(⟨x5.2.2.2.2.1,x5.2.2.2.2.2.1,x5.2.2.2.2.2.2.1,x5.2.2.2.2.2.2.2.1⟩:Qwg)⟩:Qwh),x5.2.2.2.2.2.2.2.2.1,x5.2.2.2.2.2.2.2.2.2.1,x5.2.2.2.2.2.2.2.2.2.2.1,x5.2.2.2.2.2.2.2.2.2.2.2.1,x5.2.2.2.2.2.2.2.2.2.2.2.2.2.1,x5.2.2.2.2.2.2.2.2.2.2.2.2.2.2.1⟩:Qwj)) fun x12 =>
 some x12))
def QaS (e:Qwj) (w:Qwl):Qwj:=if w.Boot > e.PeerBoot then { Qp1 e with PeerBoot:=w.Boot } else e
def Qfk (y:Qwj) (w:Qwl):Qwj:={ y with PeerTurn:=w.Turn,Up:=(w.Yours == y.Boot),Left:=4 }
def Qd1 (e:Qwj):Qwj:={ e with Under:=⟨0,⟨0,0,0,0⟩⟩,Told:=QaR e.Told e.Under,All:=if e.Under.Kind=3 then true else e.All }
def JH (e:Qwj) (w:Qwl):Qwj:=if e.Under.Kind ≠ 0∧w.Heard=e.Num then Qd1 e else e
def JQ (e:Qwj) (w:Qwl):Qwj:=if w.Change.Kind ≠ 0∧w.Num=e.Got+1 then (if (QcI e.Heard w.Change).2=true then { e with Heard:=(QcI e.Heard w.Change).1,Got:=w.Num,Full:=e.Full || (w.Change.Kind == 3) } else e) else e
def Qan (y:Qwj) (w:Qwl):Qwj:=if w.Yours=y.Boot then kept (JQ (JH (Qfk y w) w) w) else Qfk y w
def QcJ (e:Qwj) (w:Qwl):Bool:=!(e.Boot == 1000) && QO e.Keys w && (w.From == e.Peer) && (w.To == e.Name) && (decide (w.Boot > e.PeerBoot) || ((w.Boot == e.PeerBoot) && decide (w.Turn > e.PeerTurn)))
def helloHear (e:Qwj) (w:Qwl):Qwj:=if Qfj e=true then (if QcJ e w=true then Qan (QaS e w) w else e) else Qvv
structure Hr (x:Qwj):Prop where
  under:QU x.Under=true
  told:Ord idE x.Told
  tl:x.Told.length≤9
  heard:Ord rE x.Heard
  hl:x.Heard.length≤16
  got:0≤x.Got∧x.Got≤1000000
theorem QsW {e:Qwj} (h:Qfj e=true):Hr e:=by
  have g:inR e.Got 0 1000000=true∧QU e.Under=true∧JG e.Told=true∧QcH e=true:=by
    simp only [Qfj,Bool.and_eq_true] at h;exact ⟨h.1.1.1.1.1.1.1.1.1.1.1.1.2,h.1.1.1.1.1.2,h.1.1.2,h.2⟩
  obtain ⟨t1,t2⟩:=Qe3 g.2.2.1;obtain ⟨h1,h2⟩:=QnM g.2.2.2;exact ⟨g.2.1,t1,by omega,h1,h2,Jy.1 g.1⟩
theorem Qhz {e:Qwj} (h:Hr e) (w:Qwl):Hr (QaS e w):=by
  unfold QaS;split
  · exact ⟨rfl,⟨List.Pairwise.nil,fun x hx=>by cases hx⟩,Nat.zero_le _,Qp3 h.heard,by simpa [Qp1,Qdj] using h.hl,⟨Int.le_refl _,by show (0:Int)≤1000000; decide⟩⟩
  · exact h
theorem Qrg {e:Qwj} (h:Hr e) (w:Qwl):Hr (Qfk e w):=⟨h.under,h.told,h.tl,h.heard,h.hl,h.got⟩
theorem Qrh {e:Qwj} (h:Hr e):JL e=some (Qd1 e):=by
  have:=h.tl;unfold JL Qd1;rw [QoJ (by omega) h.told,Qb]
  by_cases c:e.Under.Kind=3
  · rw [if_pos (by simpa using c),if_pos c]
  · rw [if_neg (by simpa using c),if_neg c]
theorem QiR {t:List Qwi} (h:t.length≤16) (c:Qwh):(QcI t c).1.length≤16:=by
  have w3:=Qbo (f:=rE) t c.Entry;have ho:=fun k=>(QdC t k).length_le;have into:∀ s:List Qwi,(QjP s c.Entry).length=s.length+1:=fun s=>by
    have:=Qbo (f:=rE) s c.Entry;simp [QjP]; omega
  unfold QcI Qp4;split
  · split
    · simpa using h
    · split
      · cases hf:JP t with
        | none=>exact h
        | some s =>
          have:=QlV (ZY hf).1;dsimp only;rw [into];have:=(ZY hf).1;omega
      · dsimp only;rw [into];omega
  · split
    · dsimp only;split
      · have:=ho (posK rE t c.Entry); omega
      · exact h
    · exact Nat.le_trans (List.length_filter_le _ _) h
theorem QoS {z:Qwj} {w:Qwl} (h1:Ord rE z.Heard) (h2:z.Heard.length≤16) (h3:0≤z.Got∧z.Got≤1000000) (hc:QU w.Change=true):QtG z w=some (kept (JQ z w)):=by
  have tl:=QiR h2 w.Change;unfold QtG JQ;rw [QcT hc,wrap_i64 (by omega) (by omega),Qut (by omega) h1,Qb]
  by_cases c:w.Change.Kind ≠ 0∧w.Num=z.Got+1
  · rw [if_pos (by simpa using c),if_pos c]
    cases ht:(QcI z.Heard w.Change).2
    · rw [if_neg (by decide),if_neg (by decide),QnR (by exact Nat.le_trans h2 (by decide)),Qb]
    · rw [if_pos rfl,if_pos rfl,QnR (by exact Nat.le_trans tl (by decide)),Qb]
  · rw [if_neg (by simpa using c),if_neg c,QnR (by exact Nat.le_trans h2 (by decide)),Qb]
theorem Qri {y:Qwj} {w:Qwl} (h:Hr y) (hc:QU w.Change=true):Qvx y w=some (Qan y w):=by
  have hu:=Qrg h w;unfold Qvx Qan;rw [QcT h.under]
  by_cases c:w.Yours=y.Boot
  · rw [if_neg (by simpa using c),if_pos c];rw [show JH (Qfk y w) w=if y.Under.Kind ≠ 0∧w.Heard=y.Num then Qd1 (Qfk y w) else Qfk y w from rfl]
    by_cases c2:y.Under.Kind ≠ 0∧w.Heard=y.Num
    · rw [if_pos (by simpa using c2),if_pos c2];refine (congrArg (fun m=>bd (bd m _) _) (Qrh hu)).trans ?_;rw [Qb,Qb];exact QoS (z:=Qd1 (Qfk y w)) h.heard h.hl h.got hc
    · rw [if_neg (by simpa using c2),if_neg c2,Qb];exact QoS (z:=Qfk y w) h.heard h.hl h.got hc
  · rw [if_pos (by simpa using c),if_neg c]
    rfl
theorem Qrj {e:Qwj} {w:Qwl} (h:Hr e) (hc:QU w.Change=true):Qa4 e w=some (Qan (QaS e w) w):=by
  have hb:=Qhz h w;have hl:=h.hl;unfold Qa4;unfold QaS at hb ⊢
  by_cases c:w.Boot > e.PeerBoot
  · rw [if_pos c] at hb;rw [if_pos (by simpa using c),if_pos c,QnH (by omega),Qb,Qb];exact Qri hb hc
  · rw [if_neg c] at hb;rw [if_neg (by simpa using c),if_neg c,Qb];exact Qri hb hc
theorem QgV {y:Qwj} (h:Hr y) (w:Qwl):(Qan y w).Keys=y.Keys∧(Qan y w).Want=y.Want∧(Qan y w).Told.length≤10∧(Qan y w).Heard.length≤16:=by
  have hk:∀ z:Qwj,(kept z).Keys=z.Keys∧(kept z).Want=z.Want∧(kept z).Told=z.Told∧(kept z).Heard=z.Heard:=fun z=>by
    unfold kept;split <;> exact ⟨rfl,rfl,rfl,rfl⟩
  have hc:∀ z:Qwj,z.Heard.length≤16→(JQ z w).Keys=z.Keys∧(JQ z w).Want=z.Want∧(JQ z w).Told=z.Told∧(JQ z w).Heard.length≤16:=fun z hz=>by
    unfold JQ;split
    · split
      · exact ⟨rfl,rfl,rfl,QiR hz _⟩
      · exact ⟨rfl,rfl,rfl,hz⟩
    · exact ⟨rfl,rfl,rfl,hz⟩
  have ha:(JH (Qfk y w) w).Keys=y.Keys∧(JH (Qfk y w) w).Want=y.Want∧(JH (Qfk y w) w).Told.length≤10∧(JH (Qfk y w) w).Heard=y.Heard:=by
    have tl:=h.tl;have al:=Qk2 (t:=y.Told) y.Under;unfold JH;split
    · exact ⟨rfl,rfl,by show (QaR y.Told y.Under).length≤10; omega,rfl⟩
    · exact ⟨rfl,rfl,by show y.Told.length≤10; omega,rfl⟩
  unfold Qan;split
  · obtain ⟨a1,a2,a3,a4⟩:=ha;obtain ⟨b1,b2,b3,b4⟩:=hc (JH (Qfk y w) w) (by rw [a4]; exact h.hl);obtain ⟨d1,d2,d3,d4⟩:=hk (JQ (JH (Qfk y w) w) w);exact ⟨by rw [d1,b1,a1],by rw [d2,b2,a2],by rw [d3,b3]; exact a3,by rw [d4]; exact b4⟩
  · exact ⟨rfl,rfl,Nat.le_trans h.tl (by decide),h.hl⟩
theorem Qh5 {e:Qwj} {w:Qwl}:(QaS e w).Keys=e.Keys∧(QaS e w).Want=e.Want:=by
  unfold QaS;split <;> exact ⟨rfl,rfl⟩
theorem QmR {ks:List Qwf} {w:Qwl} (h:QO ks w=true):QU w.Change=true:=by
  simp only [QO,Je,Bool.and_eq_true] at h;exact h.1.2.1.2
theorem QjQ {e:Qwj} {w:Qwl} (h:QcJ e w=true):QU w.Change=true:=by
  simp only [QcJ,Bool.and_eq_true] at h;exact QmR h.1.1.1.2
theorem QnS {e:Qwj} (h:Lens e 1048576) (w:Qwl):Qa5 e w=some (helloHear e w):=by
  unfold Qa5 helloHear;rw [Qk3 h.k h.t,Qb]
  cases hok:Qfj e
  · rfl
  · obtain ⟨l1,l2,l3,l4⟩:=Qh3 hok;have I:=QsW hok;have hb:=Qhz I w;obtain ⟨t1,t2,t3,t4⟩:=QgV hb w;obtain ⟨b1,b2⟩:=Qh5 (e:=e) (w:=w);rw [if_neg (by decide),if_pos rfl,QgU h.k h.w h.t h.h,Qb,Qhx h.k,Zf,Qb];have hv:QcJ e w=(!(e.Boot == 1000) && QO e.Keys w && (w.From == e.Peer) && (w.To == e.Name) && (decide (w.Boot > e.PeerBoot) || ((w.Boot == e.PeerBoot) && decide (w.Turn > e.PeerTurn)))):=rfl;have hlt:(decide (w.Boot < e.PeerBoot) || ((w.Boot == e.PeerBoot) && decide (w.Turn≤e.PeerTurn)))=!(decide (w.Boot > e.PeerBoot) || ((w.Boot == e.PeerBoot) && decide (w.Turn > e.PeerTurn))):=by
      rw [Bool.eq_iff_iff];simp only [Bool.or_eq_true,Bool.and_eq_true,Bool.not_eq_true',Bool.or_eq_false_iff,Bool.and_eq_false_iff,decide_eq_true_eq,decide_eq_false_iff_not,beq_iff_eq,beq_eq_false_iff_ne];omega
    rw [hlt];split
    · rename_i c;have:QcJ e w=false:=by rw [hv]; clear hlt hv; grind
      rw [this]; rfl
    · rename_i c;split
      · rename_i c2;have:QcJ e w=false:=by rw [hv]; clear hlt hv; grind
        rw [this]; rfl
      · rename_i c2;have:QcJ e w=true:=by rw [hv]; clear hlt hv; grind
        rw [this,if_pos rfl,Qrj I (QjQ this),Qb,QgU (by rw [t1,b1]; exact h.k) (by rw [t2,b2]; exact h.w) (by omega) (by omega),Qb]
theorem Quu {t:List Qwi} {c:Qwh} (h:(QcI t c).2=false):(QcI t c).1=t∧c.Kind=1:=by
  unfold QcI at *
  by_cases c1:c.Kind=1
  · rw [if_pos c1] at *;refine ⟨?_,c1⟩;unfold Qp4 at *
    by_cases c2:Qcp rE t c.Entry=true
    · rw [if_pos c2] at h; cases h
    · rw [if_neg c2] at *
      by_cases c3:t.length=16
      · rw [if_pos c3] at *
        cases hf:JP t with
        | none=>rfl
        | some s=>rw [hf] at h; cases h
      · rw [if_neg c3] at h; cases h
  · rw [if_neg c1] at h
    by_cases c2:c.Kind=2
    · rw [if_pos c2] at h; cases h
    · rw [if_neg c2] at h; cases h
theorem Qvy {e:Qwj} (h:e.Keys.length≤1048576) (w:Qwl):JC e w=some (QcJ e w):=by
  have hv:QcJ e w=(!(e.Boot == 1000) && QO e.Keys w && (w.From == e.Peer) && (w.To == e.Name) && (decide (w.Boot > e.PeerBoot) || ((w.Boot == e.PeerBoot) && decide (w.Turn > e.PeerTurn)))):=rfl;unfold JC ZO;rw [Qb,QoO h,Zf,Qb];split
  · rename_i c;have:QcJ e w=false:=by rw [hv]; clear hv; grind
    rw [this]
  · rename_i c
    congr 1
    rw [hv]; clear hv; grind
theorem QgW {y:Qwj} {w:Qwl}:(Qan y w).Name=y.Name∧(Qan y w).Peer=y.Peer∧(Qan y w).Boot=y.Boot∧(Qan y w).Turn=y.Turn:=by
  have hk:∀ z:Qwj,(kept z).Name=z.Name∧(kept z).Peer=z.Peer∧(kept z).Boot=z.Boot∧(kept z).Turn=z.Turn:=fun z=>by
    unfold kept;split <;> exact ⟨rfl,rfl,rfl,rfl⟩
  have hc:∀ z:Qwj,(JQ z w).Name=z.Name∧(JQ z w).Peer=z.Peer∧(JQ z w).Boot=z.Boot∧(JQ z w).Turn=z.Turn:=fun z=>by
    unfold JQ;split
    · split <;> exact ⟨rfl,rfl,rfl,rfl⟩
    · exact ⟨rfl,rfl,rfl,rfl⟩
  have ha:(JH (Qfk y w) w).Name=y.Name∧(JH (Qfk y w) w).Peer=y.Peer∧(JH (Qfk y w) w).Boot=y.Boot∧(JH (Qfk y w) w).Turn=y.Turn:=by
    unfold JH;split <;> exact ⟨rfl,rfl,rfl,rfl⟩
  unfold Qan;split
  · obtain ⟨a1,a2,a3,a4⟩:=ha;obtain ⟨b1,b2,b3,b4⟩:=hc (JH (Qfk y w) w);obtain ⟨d1,d2,d3,d4⟩:=hk (JQ (JH (Qfk y w) w) w);exact ⟨by rw [d1,b1,a1],by rw [d2,b2,a2],by rw [d3,b3,a3],by rw [d4,b4,a4]⟩
  · exact ⟨rfl,rfl,rfl,rfl⟩
end Go.Proofs.YtjgjdobkahdgfaaGreat
