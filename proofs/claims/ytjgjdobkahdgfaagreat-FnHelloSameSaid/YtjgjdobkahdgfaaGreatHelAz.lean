/-
  Plain Lean: what an end that is ok is, in parts; a tick keeps it.
-/
import Derived.Test.YtjgjdobkahdgfaaGreatKz5
import Derived.Test.YtjgjdobkahdgfaaGreatHelWz
import Derived.Test.YtjgjdobkahdgfaaGreatHelTz
set_option linter.all false
namespace Go.Proofs.YtjgjdobkahdgfaaGreat
open Go Go.Ab
set_option maxHeartbeats 1000000
set_option maxRecDepth 100000
abbrev Inc {α:Type} (f:α→Qw8) (t:List α):Prop:=t.Pairwise fun x y=>lessE (f x) (f y)=true
structure To (t:List Qw8):Prop where
  len:t.length≤8
  ent:∀ x ∈ t,entryOk x=true
  ord:Inc idE t
theorem Qmq {α:Type} [Inhabited α] {f:α→Qw8} {t:List α}:Inc f t ↔ ∀ i,i < t.length→i=0 ∨ lessE (f (t.getD (i - 1) default)) (f (t.getD i default))=true:=by
  have g:∀ k (h:k < t.length),t.getD k default=t[k]:=fun k h=>by rw [List.getD_eq_getElem?_getD,List.getElem?_eq_getElem h]; rfl
  constructor
  · intro h i hi;rcases Nat.eq_zero_or_pos i with c | c
    · exact .inl c
    · refine .inr ?_;rw [g _ hi,g _ (by omega)];exact List.pairwise_iff_getElem.1 h (i - 1) i (by omega) hi (by omega)
  · intro h;refine List.pairwise_iff_getElem.2 fun k i hk hi hki=>?_;have l:=Qu8 (r:=fun x y=>lessE x y) (fun h k=>Qc5 h k) (f:=fun i=>f (t.getD i default)) (n:=t.length) (fun i h0 hi=>by
      rcases h i hi with h | h
      · omega
      · exact h) i hi k hki
    rw [g _ hk,g _ hi] at l;exact l
theorem Qej {t:List Qw8}:JY t=true ↔ To t:=by
  simp only [JY,Bool.and_eq_true,decide_eq_true_eq]
  constructor
  · intro ⟨h1,h2⟩;have a:∀ i,i < t.length→entryOk (t.getD i default)=true∧(i=0 ∨ lessE (t.getD (i - 1) default) (t.getD i default)=true):=fun i hi=>by
      have:=Qfi h2 hi;simp only [QrX,Bool.and_eq_true,Bool.or_eq_true,decide_eq_true_eq] at this;exact this
    refine ⟨h1,fun x hx=>?_,Qmq.2 fun i hi=>(a i hi).2⟩;obtain ⟨i,hi,rfl⟩:=Z7 hx;exact (a i hi).1
  · intro h;refine ⟨h.len,Qfj fun i hi=>?_⟩;simp only [QrX,Bool.and_eq_true,Bool.or_eq_true,decide_eq_true_eq];exact ⟨h.ent _ (Zj hi),Qmq.1 h.ord i hi⟩
structure Rt (left:Int) (t:List Qxa):Prop where
  len:t.length≤16
  ent:∀ x ∈ t,entryOk x.Entry=true
  ord:Inc rE t
  live:∀ x ∈ t,x.Stale=true ∨ left ≠ 0
structure Ro (lf kp:Int) (t:List Qxa):Prop where
  rt:Rt lf t
  keep:0≤kp∧kp≤6
  any:0 < kp ↔ Jj t=true
theorem Qox {e:Qxb}:QcS e=true ↔ Ro e.Left e.Keep e.Heard:=by
  simp only [QcS,Bool.and_eq_true,decide_eq_true_eq,Jv]
  constructor
  · intro ⟨⟨⟨h1,h2⟩,h3⟩,h4⟩;have a:∀ i,i < e.Heard.length→(entryOk (e.Heard.getD i default).Entry=true∧(i=0 ∨ lessE (e.Heard.getD (i - 1) default).Entry (e.Heard.getD i default).Entry=true))∧((e.Heard.getD i default).Stale=true ∨ e.Left ≠ 0):=fun i hi=>by
      have:=Qfi h3 hi;simp only [Qeg,Bool.and_eq_true,Bool.or_eq_true,decide_eq_true_eq,Bool.not_eq_true',beq_eq_false_iff_ne] at this;exact this
    refine ⟨⟨h1,fun x hx=>?_,Qmq.2 fun i hi=>(a i hi).1.2,fun x hx=>?_⟩,h2,?_⟩
    · obtain ⟨i,hi,rfl⟩:=Z7 hx;exact (a i hi).1.1
    · obtain ⟨i,hi,rfl⟩:=Z7 hx;exact (a i hi).2
    · rw [← eq_of_beq h4]; simp
  · intro h;refine ⟨⟨⟨h.rt.len,h.keep⟩,Qfj fun i hi=>?_⟩,?_⟩
    · simp only [Qeg,Bool.and_eq_true,Bool.or_eq_true,decide_eq_true_eq,Bool.not_eq_true',beq_eq_false_iff_ne];exact ⟨⟨h.rt.ent _ (Zj hi),Qmq.1 h.rt.ord i hi⟩,h.rt.live _ (Zj hi)⟩
    · rw [beq_iff_eq,Bool.eq_iff_iff,← h.any]; simp
structure Eo (e:Qxb):Prop where
  name:0≤e.Name∧e.Name≤65535
  peer:0≤e.Peer∧e.Peer≤65535
  ne:e.Name ≠ e.Peer
  keys:Qa5 e.Keys=true
  boot:1≤e.Boot∧e.Boot≤1000
  turn:0≤e.Turn∧e.Turn≤1000000
  pturn:0≤e.PeerTurn∧e.PeerTurn≤1000000
  got:0≤e.Got∧e.Got≤1000000
  pboot:0≤e.PeerBoot∧e.PeerBoot≤999
  pp:e.PeerBoot=0 ↔ e.PeerTurn=0
  left:0≤e.Left∧e.Left≤4
  lp:e.PeerBoot=0→e.Left=0
  up:e.Up=true→e.Left ≠ 0
  num:0≤e.Num∧e.Num≤e.Turn
  under:QT e.Under=true
  nu:e.Num=0→e.Under.Kind=0
  want:To e.Want
  told:To e.Told
  ap:To (JD e.Told e.Under)
  heard:Ro e.Left e.Keep e.Heard
theorem Jw {e:Qxb}:QeT e=true ↔ Eo e:=by
  have e1:((e.PeerBoot == 0) == (e.PeerTurn == 0))=true ↔ (e.PeerBoot=0 ↔ e.PeerTurn=0):=by
    rw [beq_iff_eq,Bool.eq_iff_iff]; simp
  have e2:(!((e.PeerBoot == 0) && (e.Left != 0)))=true ↔ (e.PeerBoot=0→e.Left=0):=by by_cases h:e.PeerBoot=0 <;> simp [h]
  have e3:(!(e.Up && (e.Left == 0)))=true ↔ (e.Up=true→e.Left ≠ 0):=by cases e.Up <;> simp
  have e4:(!((e.Num == 0) && (e.Under.Kind != 0)))=true ↔ (e.Num=0→e.Under.Kind=0):=by by_cases h:e.Num=0 <;> simp [h]
  have e5:(!(e.Name == e.Peer))=true ↔ e.Name ≠ e.Peer:=by simp
  simp only [QeT,Bool.and_eq_true,Jv,Qej,Qox,e1,e2,e3,e4,e5]
  constructor
  · intro h;obtain ⟨⟨⟨⟨⟨⟨⟨⟨⟨⟨⟨⟨⟨⟨⟨⟨⟨⟨⟨h1,h2⟩,h3⟩,h4⟩,h5⟩,h6⟩,h7⟩,h8⟩,h9⟩,h10⟩,h11⟩,h12⟩,h13⟩,h14⟩,h15⟩,h16⟩,h17⟩,h18⟩,h19⟩,h20⟩:=h;exact ⟨h1,h2,h3,h4,h5,h6,h7,h8,h9,h10,h11,h12,h13,h14,h15,h16,h17,h18,h19,h20⟩
  · intro h;exact ⟨⟨⟨⟨⟨⟨⟨⟨⟨⟨⟨⟨⟨⟨⟨⟨⟨⟨⟨h.name,h.peer⟩,h.ne⟩,h.keys⟩,h.boot⟩,h.turn⟩,h.pturn⟩,h.got⟩,h.pboot⟩,h.pp⟩,h.left⟩,h.lp⟩,h.up⟩,h.num⟩,h.under⟩,h.nu⟩,h.want⟩,h.told⟩,h.ap⟩,h.heard⟩
theorem Qki:To []:=⟨Nat.zero_le _,fun x hx=>(by cases hx),List.Pairwise.nil⟩
theorem QaJ {t:List Qxa}:Jj t=true ↔ ∃ r ∈ t,r.Stale=true:=List.any_eq_true
theorem Qiu {t:List Qxa} {x:Qxa} (h:x ∈ Qdv t):x.Stale=true∧∃ y ∈ t,x.Entry=y.Entry:=by
  obtain ⟨y,hy,rfl⟩:=List.mem_map.1 h;exact ⟨rfl,y,hy,rfl⟩
theorem Qnr {left keep:Int} {t:List Qxa} (h:Ro left keep t) (l2:Int):Ro l2 (if t.length > 0∧keep=0 then 6 else keep) (Qdv t):=by
  refine ⟨⟨by simpa [Qdv] using h.rt.len,fun x hx=>?_,List.pairwise_map.2 (h.rt.ord.imp fun q=>q),fun x hx=>.inl (Qiu hx).1⟩,?_,?_⟩
  · obtain ⟨_,y,hy,e⟩:=Qiu hx;rw [e]; exact h.rt.ent y hy
  · have:=h.keep;split <;> omega
  · rw [QaJ];have hk:=h.keep;have ha:=h.any;rw [QaJ] at ha
    constructor
    · intro q;have:0 < t.length:=by
        split at q
        · rename_i c; exact c.1
        · obtain ⟨r,hr,_⟩:=ha.1 q;exact List.length_pos_of_mem hr
      exact ⟨⟨(t.getD 0 default).Entry,true⟩,List.mem_map.2 ⟨_,Zj this,rfl⟩,rfl⟩
    · intro ⟨r,hr,_⟩;obtain ⟨_,y,hy,_⟩:=Qiu hr;have:=List.length_pos_of_mem hy;split <;> omega
theorem Qsd {e:Qxb} (hn:0≤e.Name∧e.Name≤65535) (hp:0≤e.Peer∧e.Peer≤65535) (hne:e.Name ≠ e.Peer) (hk:Qa5 e.Keys=true) (hb:1≤e.Boot∧e.Boot≤1000) (ht:0≤e.Turn∧e.Turn≤1000000) (h1:0≤e.PeerTurn∧e.PeerTurn≤1000000) (h2:0≤e.PeerBoot∧e.PeerBoot≤999) (h3:e.PeerBoot=0 ↔ e.PeerTurn=0) (h4:0≤e.Left∧e.Left≤4) (h5:e.PeerBoot=0→e.Left=0) (hw:To e.Want) {left:Int} (hr:Ro left e.Keep e.Heard):Eo (QqQ e) :=
  ⟨hn,hp,hne,hk,hb,ht,h1,⟨Int.le_refl _,by show (0:Int)≤1000000; decide⟩,h2,h3,h4,h5,fun q=>(by cases q),⟨Int.le_refl _,ht.1⟩,rfl,fun _=>rfl,hw,Qki,Qki,Qnr hr _⟩
theorem Qkj {e:Qxb} (h:Eo e):Eo (keepTick e):=by
  unfold keepTick
  by_cases c:e.Keep > 0
  · rw [if_pos c];have hh:=h.heard;refine { h with heard:=?_ };dsimp only
    by_cases c2:e.Keep - 1=0
    · rw [if_pos c2,c2];have hm:∀ x ∈ fresh e.Heard,x ∈ e.Heard:=fun x hx=>(List.mem_filter.1 hx).1;refine ⟨⟨Nat.le_trans (List.length_filter_le _ _) hh.rt.len,fun x hx=>hh.rt.ent x (hm x hx),hh.rt.ord.sublist List.filter_sublist,fun x hx=>hh.rt.live x (hm x hx)⟩,by decide,?_⟩;rw [QaJ];refine ⟨fun q=>absurd q (by decide),fun ⟨r,hr,q⟩=>?_⟩;have:=(List.mem_filter.1 hr).2;rw [q] at this; cases this
    · rw [if_neg c2];have hk:=hh.keep;have ha:=hh.any;exact ⟨hh.rt,by omega,⟨fun _=>ha.1 c,fun _=>by omega⟩⟩
  · rw [if_neg c]; exact h
theorem Qkk {e:Qxb} (h:Eo { e with Left:=0,Up:=false,Heard:=[],Keep:=0 }) {left:Int} (hr:Ro left e.Keep e.Heard):Eo (ZH e):=by
  unfold ZH;refine Qsd h.name h.peer h.ne h.keys ?_ ⟨Int.le_refl _,by show (0:Int)≤1000000; decide⟩ h.pturn h.pboot h.pp ⟨Int.le_refl _,by show (0:Int)≤4; decide⟩ (fun _=>rfl) h.want hr;have hb:=h.boot;dsimp only at hb ⊢;split <;> omega
theorem Qly (left:Int):Ro left 0 []:=⟨⟨Nat.zero_le _,fun x hx=>(by cases hx),List.Pairwise.nil,fun x hx=>(by cases hx)⟩,by decide,⟨fun q=>absurd q (by decide),fun q=>(by cases q)⟩⟩
theorem Qkl {e:Qxb} (h:Eo e):Eo { e with Left:=0,Up:=false,Heard:=[],Keep:=0 } :=
  { h with left:=⟨Int.le_refl _,by show (0:Int)≤4; decide⟩,lp:=fun _=>rfl,up:=fun q=>(by cases q),heard:=Qly _ }
theorem Qoy {e:Qxb} (h:Eo e):Eo (QcT e):=by
  unfold QcT
  by_cases c:e.Left > 0
  · rw [if_pos c];have hl:=h.left
    by_cases c2:e.Left - 1=0
    · rw [if_pos c2];have hb:=Qkl h;exact Qkk (e:={ e with Left:=e.Left - 1 }) hb h.heard
    · rw [if_neg c2];have hh:=h.heard;have hlp:=h.lp;refine { h with left:=?_,lp:=?_,up:=?_,heard:=⟨{ hh.rt with live:=?_ },hh.keep,hh.any⟩ }
      · dsimp only; omega
      · intro q; have:=hlp q; dsimp only; omega
      · intro _; exact c2
      · intro _ _; exact .inr c2
  · rw [if_neg c]; exact h
theorem Qse {e:Qxb} (h:Eo e):Eo (Qce e):=Qoy (Qkj h)
end Go.Proofs.YtjgjdobkahdgfaaGreat
