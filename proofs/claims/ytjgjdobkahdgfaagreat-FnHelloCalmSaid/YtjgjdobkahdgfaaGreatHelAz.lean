/-
  Plain Lean: what an end that is ok is, in parts; a tick keeps it.
-/
import Derived.Test.YtjgjdobkahdgfaaGreatKz5
import Derived.Test.YtjgjdobkahdgfaaGreatHelWz
import Derived.Test.YtjgjdobkahdgfaaGreatHelTz
set_option linter.all false
namespace Go.Proofs.YtjgjdobkahdgfaaGreat
open Go Go.Ab
set_option maxHeartbeats 1000000
set_option maxRecDepth 100000
abbrev Inc {α:Type} (f:α→Qxm) (t:List α):Prop:=t.Pairwise fun x y=>lessE (f x) (f y)=true
structure To (t:List Qxm):Prop where
  len:t.length≤8
  ent:∀ x ∈ t,entryOk x=true
  ord:Inc idE t
theorem QmF {α:Type} [Inhabited α] {f:α→Qxm} {t:List α}:Inc f t ↔ ∀ i,i < t.length→i=0 ∨ lessE (f (t.getD (i - 1) default)) (f (t.getD i default))=true:=by
  have g:∀ k (h:k < t.length),t.getD k default=t[k]:=fun k h=>by rw [List.getD_eq_getElem?_getD,List.getElem?_eq_getElem h]; rfl
  constructor
  · intro h i hi;rcases Nat.eq_zero_or_pos i with c | c
    · exact .inl c
    · refine .inr ?_;rw [g _ hi,g _ (by omega)];exact List.pairwise_iff_getElem.1 h (i - 1) i (by omega) hi (by omega)
  · intro h;refine List.pairwise_iff_getElem.2 fun k i hk hi hki=>?_;have l:=Qvi (r:=fun x y=>lessE x y) (fun h k=>Qdi h k) (f:=fun i=>f (t.getD i default)) (n:=t.length) (fun i h0 hi=>by
      rcases h i hi with h | h
      · omega
      · exact h) i hi k hki
    rw [g _ hk,g _ hi] at l;exact l
theorem Qfz {t:List Qxm}:J1 t=true ↔ To t:=by
  simp only [J1,Bool.and_eq_true,decide_eq_true_eq]
  constructor
  · intro ⟨h1,h2⟩;have a:∀ i,i < t.length→entryOk (t.getD i default)=true∧(i=0 ∨ lessE (t.getD (i - 1) default) (t.getD i default)=true):=fun i hi=>by
      have:=Qfr h2 hi;simp only [Qsc,Bool.and_eq_true,Bool.or_eq_true,decide_eq_true_eq] at this;exact this
    refine ⟨h1,fun x hx=>?_,QmF.2 fun i hi=>(a i hi).2⟩;obtain ⟨i,hi,rfl⟩:=Je hx;exact (a i hi).1
  · intro h;refine ⟨h.len,Qfs fun i hi=>?_⟩;simp only [Qsc,Bool.and_eq_true,Bool.or_eq_true,decide_eq_true_eq];exact ⟨h.ent _ (Zo hi),QmF.1 h.ord i hi⟩
structure Rt (left:Int) (t:List Qxo):Prop where
  len:t.length≤16
  ent:∀ x ∈ t,entryOk x.Entry=true
  ord:Inc rE t
  live:∀ x ∈ t,x.Stale=true ∨ left ≠ 0
structure Ro (lf kp:Int) (t:List Qxo):Prop where
  rt:Rt lf t
  keep:0≤kp∧kp≤6
  any:0 < kp ↔ Z8 t=true
theorem QoM {e:Qxp}:Qc4 e=true ↔ Ro e.Left e.Keep e.Heard:=by
  simp only [Qc4,Bool.and_eq_true,decide_eq_true_eq,Jz]
  constructor
  · intro ⟨⟨⟨h1,h2⟩,h3⟩,h4⟩;have a:∀ i,i < e.Heard.length→(entryOk (e.Heard.getD i default).Entry=true∧(i=0 ∨ lessE (e.Heard.getD (i - 1) default).Entry (e.Heard.getD i default).Entry=true))∧((e.Heard.getD i default).Stale=true ∨ e.Left ≠ 0):=fun i hi=>by
      have:=Qfr h3 hi;simp only [Qeo,Bool.and_eq_true,Bool.or_eq_true,decide_eq_true_eq,Bool.not_eq_true',beq_eq_false_iff_ne] at this;exact this
    refine ⟨⟨h1,fun x hx=>?_,QmF.2 fun i hi=>(a i hi).1.2,fun x hx=>?_⟩,h2,?_⟩
    · obtain ⟨i,hi,rfl⟩:=Je hx;exact (a i hi).1.1
    · obtain ⟨i,hi,rfl⟩:=Je hx;exact (a i hi).2
    · rw [← eq_of_beq h4]; simp
  · intro h;refine ⟨⟨⟨h.rt.len,h.keep⟩,Qfs fun i hi=>?_⟩,?_⟩
    · simp only [Qeo,Bool.and_eq_true,Bool.or_eq_true,decide_eq_true_eq,Bool.not_eq_true',beq_eq_false_iff_ne];exact ⟨⟨h.rt.ent _ (Zo hi),QmF.1 h.rt.ord i hi⟩,h.rt.live _ (Zo hi)⟩
    · rw [beq_iff_eq,Bool.eq_iff_iff,← h.any]; simp
structure Eo (e:Qxp):Prop where
  name:0≤e.Name∧e.Name≤65535
  peer:0≤e.Peer∧e.Peer≤65535
  ne:e.Name ≠ e.Peer
  keys:Qbb e.Keys=true
  boot:1≤e.Boot∧e.Boot≤1000
  turn:0≤e.Turn∧e.Turn≤1000000
  pturn:0≤e.PeerTurn∧e.PeerTurn≤1000000
  got:0≤e.Got∧e.Got≤1000000
  pboot:0≤e.PeerBoot∧e.PeerBoot≤999
  pp:e.PeerBoot=0 ↔ e.PeerTurn=0
  left:0≤e.Left∧e.Left≤4
  lp:e.PeerBoot=0→e.Left=0
  up:e.Up=true→e.Left ≠ 0
  num:0≤e.Num∧e.Num≤e.Turn
  under:QV e.Under=true
  nu:e.Num=0→e.Under.Kind=0
  want:To e.Want
  told:To e.Told
  ap:To (JG e.Told e.Under)
  heard:Ro e.Left e.Keep e.Heard
theorem JI {e:Qxp}:QfN e=true ↔ Eo e:=by
  have e1:((e.PeerBoot == 0) == (e.PeerTurn == 0))=true ↔ (e.PeerBoot=0 ↔ e.PeerTurn=0):=by
    rw [beq_iff_eq,Bool.eq_iff_iff]; simp
  have e2:(!((e.PeerBoot == 0) && (e.Left != 0)))=true ↔ (e.PeerBoot=0→e.Left=0):=by by_cases h:e.PeerBoot=0 <;> simp [h]
  have e3:(!(e.Up && (e.Left == 0)))=true ↔ (e.Up=true→e.Left ≠ 0):=by cases e.Up <;> simp
  have e4:(!((e.Num == 0) && (e.Under.Kind != 0)))=true ↔ (e.Num=0→e.Under.Kind=0):=by by_cases h:e.Num=0 <;> simp [h]
  have e5:(!(e.Name == e.Peer))=true ↔ e.Name ≠ e.Peer:=by simp
  simp only [QfN,Bool.and_eq_true,Jz,Qfz,QoM,e1,e2,e3,e4,e5]
  constructor
  · intro h;obtain ⟨⟨⟨⟨⟨⟨⟨⟨⟨⟨⟨⟨⟨⟨⟨⟨⟨⟨⟨h1,h2⟩,h3⟩,h4⟩,h5⟩,h6⟩,h7⟩,h8⟩,h9⟩,h10⟩,h11⟩,h12⟩,h13⟩,h14⟩,h15⟩,h16⟩,h17⟩,h18⟩,h19⟩,h20⟩:=h;exact ⟨h1,h2,h3,h4,h5,h6,h7,h8,h9,h10,h11,h12,h13,h14,h15,h16,h17,h18,h19,h20⟩
  · intro h;exact ⟨⟨⟨⟨⟨⟨⟨⟨⟨⟨⟨⟨⟨⟨⟨⟨⟨⟨⟨h.name,h.peer⟩,h.ne⟩,h.keys⟩,h.boot⟩,h.turn⟩,h.pturn⟩,h.got⟩,h.pboot⟩,h.pp⟩,h.left⟩,h.lp⟩,h.up⟩,h.num⟩,h.under⟩,h.nu⟩,h.want⟩,h.told⟩,h.ap⟩,h.heard⟩
theorem Qku:To []:=⟨Nat.zero_le _,fun x hx=>(by cases hx),List.Pairwise.nil⟩
theorem QaQ {t:List Qxo}:Z8 t=true ↔ ∃ r ∈ t,r.Stale=true:=List.any_eq_true
theorem QiD {t:List Qxo} {x:Qxo} (h:x ∈ QdG t):x.Stale=true∧∃ y ∈ t,x.Entry=y.Entry:=by
  obtain ⟨y,hy,rfl⟩:=List.mem_map.1 h;exact ⟨rfl,y,hy,rfl⟩
theorem QnI {left keep:Int} {t:List Qxo} (h:Ro left keep t) (l2:Int):Ro l2 (if t.length > 0∧keep=0 then 6 else keep) (QdG t):=by
  refine ⟨⟨by simpa [QdG] using h.rt.len,fun x hx=>?_,List.pairwise_map.2 (h.rt.ord.imp fun q=>q),fun x hx=>.inl (QiD hx).1⟩,?_,?_⟩
  · obtain ⟨_,y,hy,e⟩:=QiD hx;rw [e]; exact h.rt.ent y hy
  · have:=h.keep;split <;> omega
  · rw [QaQ];have hk:=h.keep;have ha:=h.any;rw [QaQ] at ha
    constructor
    · intro q;have:0 < t.length:=by
        split at q
        · rename_i c; exact c.1
        · obtain ⟨r,hr,_⟩:=ha.1 q;exact List.length_pos_of_mem hr
      exact ⟨⟨(t.getD 0 default).Entry,true⟩,List.mem_map.2 ⟨_,Zo this,rfl⟩,rfl⟩
    · intro ⟨r,hr,_⟩;obtain ⟨_,y,hy,_⟩:=QiD hr;have:=List.length_pos_of_mem hy;split <;> omega
theorem Qsr {e:Qxp} (hn:0≤e.Name∧e.Name≤65535) (hp:0≤e.Peer∧e.Peer≤65535) (hne:e.Name ≠ e.Peer) (hk:Qbb e.Keys=true) (hb:1≤e.Boot∧e.Boot≤1000) (ht:0≤e.Turn∧e.Turn≤1000000) (h1:0≤e.PeerTurn∧e.PeerTurn≤1000000) (h2:0≤e.PeerBoot∧e.PeerBoot≤999) (h3:e.PeerBoot=0 ↔ e.PeerTurn=0) (h4:0≤e.Left∧e.Left≤4) (h5:e.PeerBoot=0→e.Left=0) (hw:To e.Want) {left:Int} (hr:Ro left e.Keep e.Heard):Eo (Qq6 e) :=
  ⟨hn,hp,hne,hk,hb,ht,h1,⟨Int.le_refl _,by show (0:Int)≤1000000; decide⟩,h2,h3,h4,h5,fun q=>(by cases q),⟨Int.le_refl _,ht.1⟩,rfl,fun _=>rfl,hw,Qku,Qku,QnI hr _⟩
theorem Qkv {e:Qxp} (h:Eo e):Eo (keepTick e):=by
  unfold keepTick
  by_cases c:e.Keep > 0
  · rw [if_pos c];have hh:=h.heard;refine { h with heard:=?_ };dsimp only
    by_cases c2:e.Keep - 1=0
    · rw [if_pos c2,c2];have hm:∀ x ∈ fresh e.Heard,x ∈ e.Heard:=fun x hx=>(List.mem_filter.1 hx).1;refine ⟨⟨Nat.le_trans (List.length_filter_le _ _) hh.rt.len,fun x hx=>hh.rt.ent x (hm x hx),hh.rt.ord.sublist List.filter_sublist,fun x hx=>hh.rt.live x (hm x hx)⟩,by decide,?_⟩;rw [QaQ];refine ⟨fun q=>absurd q (by decide),fun ⟨r,hr,q⟩=>?_⟩;have:=(List.mem_filter.1 hr).2;rw [q] at this; cases this
    · rw [if_neg c2];have hk:=hh.keep;have ha:=hh.any;exact ⟨hh.rt,by omega,⟨fun _=>ha.1 c,fun _=>by omega⟩⟩
  · rw [if_neg c]; exact h
theorem Qkw {e:Qxp} (h:Eo { e with Left:=0,Up:=false,Heard:=[],Keep:=0 }) {left:Int} (hr:Ro left e.Keep e.Heard):Eo (ZM e):=by
  unfold ZM;refine Qsr h.name h.peer h.ne h.keys ?_ ⟨Int.le_refl _,by show (0:Int)≤1000000; decide⟩ h.pturn h.pboot h.pp ⟨Int.le_refl _,by show (0:Int)≤4; decide⟩ (fun _=>rfl) h.want hr;have hb:=h.boot;dsimp only at hb ⊢;split <;> omega
theorem QlL (left:Int):Ro left 0 []:=⟨⟨Nat.zero_le _,fun x hx=>(by cases hx),List.Pairwise.nil,fun x hx=>(by cases hx)⟩,by decide,⟨fun q=>absurd q (by decide),fun q=>(by cases q)⟩⟩
theorem Qkx {e:Qxp} (h:Eo e):Eo { e with Left:=0,Up:=false,Heard:=[],Keep:=0 } :=
  { h with left:=⟨Int.le_refl _,by show (0:Int)≤4; decide⟩,lp:=fun _=>rfl,up:=fun q=>(by cases q),heard:=QlL _ }
theorem QoN {e:Qxp} (h:Eo e):Eo (Qc5 e):=by
  unfold Qc5
  by_cases c:e.Left > 0
  · rw [if_pos c];have hl:=h.left
    by_cases c2:e.Left - 1=0
    · rw [if_pos c2];have hb:=Qkx h;exact Qkw (e:={ e with Left:=e.Left - 1 }) hb h.heard
    · rw [if_neg c2];have hh:=h.heard;have hlp:=h.lp;refine { h with left:=?_,lp:=?_,up:=?_,heard:=⟨{ hh.rt with live:=?_ },hh.keep,hh.any⟩ }
      · dsimp only; omega
      · intro q; have:=hlp q; dsimp only; omega
      · intro _; exact c2
      · intro _ _; exact .inr c2
  · rw [if_neg c]; exact h
theorem Qss {e:Qxp} (h:Eo e):Eo (Qcl e):=QoN (Qkv h)
end Go.Proofs.YtjgjdobkahdgfaaGreat
