/-
  Plain Lean: steps and rounds of the reference's worlds.
-/
import Derived.Test.YtjgjdobkahdgfaaGreatKz6
import Derived.Test.YtjgjdobkahdgfaaGreatHelDz
set_option linter.all false
namespace Go.Proofs.YtjgjdobkahdgfaaGreat
open Go Go.Ab
set_option maxHeartbeats 1000000
set_option maxRecDepth 100000
theorem QhT {e:Qv5} (h:Eo e):QhQ e=Qd8 e∧(Qd8 e).Name=e.Name∧(Qd8 e).Peer=e.Peer:=by
  refine ⟨by unfold QhQ; rw [if_pos (JX.2 h)],?_⟩;have k:(keepTick e).Name=e.Name∧(keepTick e).Peer=e.Peer:=by
    unfold keepTick;split <;> exact ⟨rfl,rfl⟩
  unfold Qd8 Qej;generalize keepTick e=x at *;split
  · split <;> exact k
  · exact k
def Qqh (e:Qv5):Qv5:={ e with Turn:=0,PeerBoot:=0,PeerTurn:=0,Up:=false,Left:=0,Num:=0,Under:=⟨0,⟨0,0,0,0⟩⟩,Told:=[],All:=false,Got:=0,Full:=false,Heard:=[],Keep:=0 }
theorem Qms {e:Qv5} (h:Eo e):Eo (Qqh e) :=
  ⟨h.name,h.peer,h.ne,h.keys,h.boot,(by show (0:Int)≤0∧(0:Int)≤1000000; decide),(by show (0:Int)≤0∧(0:Int)≤1000000; decide),(by show (0:Int)≤0∧(0:Int)≤1000000; decide),(by show (0:Int)≤0∧(0:Int)≤999; decide),⟨fun _=>rfl,fun _=>rfl⟩,(by show (0:Int)≤0∧(0:Int)≤4; decide),fun _=>rfl,fun q=>(by cases q),(by show (0:Int)≤0∧(0:Int)≤0; decide),rfl,fun _=>rfl,h.want,Qkh,Qkh,Qlt _⟩
theorem Qoo {e:Qv5} (h:Eo e) (hh:e.Heard=[]):JD e=some (Qaw e):=by
  have hk:e.Keep=0:=by
    have:=h.heard.any;have k:=h.heard.keep;rw [hh] at this;have:¬ 0 < e.Keep:=fun q=>by
      have:=this.1 q
      cases this
    omega
  have hb:=h.boot;have stale:∀ x:Qv5,x.Heard=[]→J6 x=some x:=fun x hx=>by
    unfold J6;rw [hx];have:lp (σ:=Unit) (β:=(Unit)) (fun s1 =>
        (if (decide ((0:Int) < ((([]:List Qv4).length:Nat):Int)))=true then
        none
        else
        some (.inr ()))) ()=some ():=Qdu (by rw [if_neg (by simp)])
    rw [this,Qb,if_neg (by simp)]
  have an:∀ x:Qv5,x.Heard=[]→x.Keep=0→JC x=some (Qqv x):=fun x hx hk=>by
    unfold JC Qqv;rw [stale _ (by exact hx),Qb,hx,hk]
    rfl
  unfold JD Qaw
  by_cases c:e.Boot < 1000
  · rw [if_pos (by simpa using c),if_pos c,an _ (by exact hh) (by exact hk),Qb,wrap_i64 (by omega) (by omega)]
  · rw [if_neg (by simpa using c),if_neg c,an _ (by exact hh) (by exact hk),Qb]
theorem Qqi {w:Qv8} (h:Gw w) {e:Qv9} (he:e.Keys.length≤1048576):Post (Qcb w e) Gw:=by
  have hG:=h;obtain ⟨⟨a,b,hs,t⟩,hl,hw⟩:=h;obtain ⟨S,R⟩:=w;dsimp only at hs hl hw;subst hs;unfold Qcb;rw [Jy,Qb];refine .ite (fun _=>.ret hG) fun c=>?_;have hi:0≤e.At∧e.At < 2:=by
    have:inR e.At 0 1=true:=by simpa using c
    have:=JV.1 this;omega
  have so:=Qkk t hi;have hg:(0:Int)≤e.At∧e.At < ((([a,b]:List Qv6).length:Nat):Int):=by simp; omega
  have mk:∀ s:Qv6,So s→s.End.Name=(([a,b]:List Qv6).getD e.At.toNat default).End.Name→s.End.Peer=(([a,b]:List Qv6).getD e.At.toNat default).End.Peer→Gw ⟨([a,b]:List Qv6).set e.At.toNat s,R⟩:=fun s h1 h2 h3=>⟨Qon t hi h1 h2 h3,hl,hw⟩;generalize hX:(([a,b]:List Qv6).getD e.At.toNat default)=X at *;refine .gd hg (.bd (Q:=fun r=>match r with | .inl d=>Gw ⟨d.1,d.2⟩ | .inr d=>Gw ⟨d.2.2,d.1⟩) ?_ fun r hr=>?_)
  · refine .ite (fun _=>.ite (fun u=>.bd (Qkj so.eo) fun x ⟨x1,x2,x3⟩=>.gd hg ?_) fun _=>.ret hG) fun _=>.ite (fun _=>.ite (fun u=>?_) fun _=>.ret hG) fun _=>.ite (fun _=>?_) fun _=>.ite (fun _=>.ite (fun u=>?_) fun _=>.ret hG) fun _=>.ite (fun _=>?_) fun _=>.ite (fun _=>?_) fun _=>.ret hG
    · have G:=mk ⟨X.Up,x.1⟩ ⟨x1,fun q=>by have q:X.Up=false:=q; rw [u] at q; cases q⟩ x2.1 x2.2;exact .ite (fun k=>.bd (Qjh G (x3 k)) fun y hy=>.ret hy) fun _=>.ret G
    · obtain ⟨t1,t2,t3⟩:=QhT so.eo;have L:=(ZE so.eo).mono (m:=1048576) (by decide);refine .bd (Q:=fun x=>x=Qd8 X.End) ⟨_,Qn9 L.k L.t,t1⟩ fun x hx=>.gd hg (.ret ?_);exact mk ⟨X.Up,x⟩ ⟨by rw [hx]; exact Qoj so.eo,fun q=>by have q:X.Up=false:=q; rw [u] at q; cases q⟩ (by rw [hx]; exact t2) (by rw [hx]; exact t3)
    · have d:=Qms so.eo;refine .bd (Q:=fun x=>x=Qqh X.End) ⟨_,?_,rfl⟩ fun x hx=>.gd hg (.ret ?_)
      · unfold QaJ;refine (congrArg (fun m=>bd m _) (Qc7 ((ZE d).mono (by decide)))).trans ?_;rw [Qb]
      · exact mk ⟨false,x⟩ ⟨by rw [hx]; exact d,fun _=>by rw [hx]; exact ⟨rfl,rfl,rfl,rfl,rfl,rfl,rfl,rfl,rfl,rfl⟩⟩ (by rw [hx]; rfl) (by rw [hx]; rfl)
    · have u:X.Up=false:=by simpa using u
      have d:=so.down u;have lf:=Qiu (Qiv so.eo) so.eo.heard;refine .bd (Q:=fun x=>x=Qaw X.End) ⟨_,Qoo so.eo d.heard,rfl⟩ fun x hx=>.gd hg (.ret ?_);exact mk ⟨true,x⟩ ⟨by rw [hx]; exact lf,fun q=>by cases q⟩ (by rw [hx]; rfl) (by rw [hx]; rfl)
    · rw [Qgm,Qb];refine .ite (fun k=>?_) fun _=>.ret hG;have tw:=Qd6.1 k;have:=tw.len;rw [Qf2 (by omega),Qb];refine .gd hg ?_;rw [Qb];refine .ret (mk ⟨X.Up,{ X.End with Want:=e.Want }⟩ ⟨{ so.eo with want:=tw },fun q=>?_⟩ rfl rfl);have d:=so.down q;exact ⟨d.turn,d.pboot,d.up,d.num,d.kind,d.told,d.all,d.got,d.full,d.heard⟩
    · rw [Qka he,Qb];refine .ite (fun k=>.bd (Qnq hG) fun r ⟨r1,r2⟩=>?_) fun _=>.ret hG;unfold ZL;rw [Qn (by omega),Qb];refine .gd hg ?_;rw [Qb];have G:=mk ⟨X.Up,{ X.End with Keys:=e.Keys }⟩ ⟨{ so.eo with keys:=k },fun q=>by
        have d:=so.down q;exact ⟨d.turn,d.pboot,d.up,d.num,d.kind,d.told,d.all,d.got,d.full,d.heard⟩⟩ rfl rfl
      exact .ret ⟨G.two,Nat.le_trans r1 hl,r2⟩
  · cases r with
    | inl d=>exact .ret hr
    | inr d=>exact .ret hr
theorem Qgp {w:Qv8} (h:Gw w) {e:Qv9} (he:e.Keys.length≤1048576):Post (QU w e) Gw:=by
  have hG:=h;obtain ⟨⟨a,b,hs,t⟩,hl,hw⟩:=h;obtain ⟨S,R⟩:=w;dsimp only at hs hl hw;subst hs;unfold QU;rw [Jy,Qb];refine .ite (fun _=>.ret hG) fun c=>?_;have hi:0≤e.At∧e.At < 2:=by
    have:inR e.At 0 1=true:=by simpa using c
    have:=JV.1 this;omega
  have so:=Qkk t hi;have hg:(0:Int)≤e.At∧e.At < ((([a,b]:List Qv6).length:Nat):Int):=by simp; omega
  have mk:∀ s:Qv6,So s→s.End.Name=(([a,b]:List Qv6).getD e.At.toNat default).End.Name→s.End.Peer=(([a,b]:List Qv6).getD e.At.toNat default).End.Peer→Gw ⟨([a,b]:List Qv6).set e.At.toNat s,R⟩:=fun s h1 h2 h3=>⟨Qon t hi h1 h2 h3,hl,hw⟩;generalize hX:(([a,b]:List Qv6).getD e.At.toNat default)=X at *;refine .gd hg (.bd (Q:=fun r=>match r with | .inl d=>Gw ⟨d.1,d.2⟩ | .inr d=>Gw ⟨d.1,d.2.2.1⟩) ?_ fun r hr=>?_)
  · refine .ite (fun _=>.ite (fun u=>.bd (Qkj so.eo) fun x ⟨x1,x2,x3⟩=>.gd hg ?_) fun _=>.ret hG) fun _=>.ite (fun _=>.ite (fun u=>?_) fun _=>.ret hG) fun _=>.ite (fun _=>?_) fun _=>.ite (fun _=>.ite (fun u=>?_) fun _=>.ret hG) fun _=>.ite (fun _=>?_) fun _=>.ite (fun _=>?_) fun _=>.ret hG
    · have G:=mk ⟨X.Up,x.1⟩ ⟨x1,fun q=>by have q:X.Up=false:=q; rw [u] at q; cases q⟩ x2.1 x2.2;exact .ite (fun k=>.bd (QrQ G (x3 k)) fun y hy=>.ret hy) fun _=>.ret G
    · obtain ⟨t1,t2,t3⟩:=QhT so.eo;have L:=(ZE so.eo).mono (m:=1048576) (by decide);refine .bd (Q:=fun x=>x=Qd8 X.End) ⟨_,Qn9 L.k L.t,t1⟩ fun x hx=>.gd hg (.ret ?_);exact mk ⟨X.Up,x⟩ ⟨by rw [hx]; exact Qoj so.eo,fun q=>by have q:X.Up=false:=q; rw [u] at q; cases q⟩ (by rw [hx]; exact t2) (by rw [hx]; exact t3)
    · have d:=Qms so.eo;refine .bd (Q:=fun x=>x=Qqh X.End) ⟨_,?_,rfl⟩ fun x hx=>.gd hg (.ret ?_)
      · unfold QaJ;refine (congrArg (fun m=>bd m _) (Qc7 ((ZE d).mono (by decide)))).trans ?_;rw [Qb]
      · exact mk ⟨false,x⟩ ⟨by rw [hx]; exact d,fun _=>by rw [hx]; exact ⟨rfl,rfl,rfl,rfl,rfl,rfl,rfl,rfl,rfl,rfl⟩⟩ (by rw [hx]; rfl) (by rw [hx]; rfl)
    · have u:X.Up=false:=by simpa using u
      have d:=so.down u;have lf:=Qiu (Qiv so.eo) so.eo.heard;refine .bd (Q:=fun x=>x=Qaw X.End) ⟨_,Qoo so.eo d.heard,rfl⟩ fun x hx=>.gd hg (.ret ?_);exact mk ⟨true,x⟩ ⟨by rw [hx]; exact lf,fun q=>by cases q⟩ (by rw [hx]; rfl) (by rw [hx]; rfl)
    · rw [Qgm,Qb];refine .ite (fun k=>?_) fun _=>.ret hG;have tw:=Qd6.1 k;have:=tw.len;rw [Qf2 (by omega),Qb];refine .gd hg ?_;rw [Qb];refine .ret (mk ⟨X.Up,{ X.End with Want:=e.Want }⟩ ⟨{ so.eo with want:=tw },fun q=>?_⟩ rfl rfl);have d:=so.down q;exact ⟨d.turn,d.pboot,d.up,d.num,d.kind,d.told,d.all,d.got,d.full,d.heard⟩
    · rw [Qka he,Qb];refine .ite (fun k=>.bd (Qnq hG) fun r ⟨r1,r2⟩=>?_) fun _=>.ret hG;unfold ZL;rw [Qn (by omega),Qb];refine .gd hg ?_;rw [Qb];have G:=mk ⟨X.Up,{ X.End with Keys:=e.Keys }⟩ ⟨{ so.eo with keys:=k },fun q=>by
        have d:=so.down q;exact ⟨d.turn,d.pboot,d.up,d.num,d.kind,d.told,d.all,d.got,d.full,d.heard⟩⟩ rfl rfl
      exact .ret ⟨G.two,Nat.le_trans r1 hl,r2⟩
  · cases r with
    | inl d=>exact .ret hr
    | inr d=>exact .ret hr
theorem Qqj {w:Qv8} (h:Gw w) (x:Qv7):Post (QbF w x) Gw:=by
  have hG:=h;obtain ⟨⟨a,b,hs,t⟩,hl,hw⟩:=h;have ka:=(ZE t.a.eo).k;have kb:=(ZE t.b.eo).k;unfold QbF;rw [Qmn,Qb,hs];refine .gd (fun _=>by simp) (.bd (Q:=fun _=>True) (.gcall (fun _=>⟨_,Qfh (by exact Nat.le_trans ka (by decide)) _,trivial⟩) fun _=>trivial) fun x3 _=>.gd (fun _=>by simp) (.bd (Q:=fun _=>True) (.gcall (fun _=>⟨_,Qfh (by exact Nat.le_trans kb (by decide)) _,trivial⟩) fun _=>trivial) fun x5 _=>.ite (fun _=>.ret hG) fun c=>.bd (Qjh hG ?_) fun y hy=>.ret hy));simp only [Bool.or_eq_true,not_or,Bool.not_eq_true,Bool.not_eq_false'] at c;exact c.1.1
theorem Qqk {w:Qv8} (h:Gw w) (e:Qv9):Post (Qcc w e) Gw:=by
  have hl:=h.len;unfold Qcc;rw [Jy,Qb,wrap_i64 (n:=((w.Radio.length:Nat):Int) - 1) (by omega) (by omega)];refine .ite (fun _=>.ret h) fun c=>?_;have hi:0≤e.At∧e.At < (w.Radio.length:Int):=by
    have:inR e.At 0 (((w.Radio.length:Nat):Int) - 1)=true:=by simpa using c
    have:=JV.1 this;omega
  refine .ite (fun _=>.bd (Qgo h hi) fun x hx=>.ret hx.1) fun _=>.ite (fun _=>.gd hi (.bd (Qjh h (h.words _ (ZG (by omega)))) fun x hx=>.ret hx)) fun _=>?_;rw [QrR hi hl,wrap_i64 (n:=e.At+1) (by omega) (by omega)];refine .gd (by omega) (.gd (by omega) (.gd (by omega) (.gd ?_ (.ret ⟨h.two,?_,Qnp h.words⟩))))
  · simp [QW]; omega
  · simp; omega
theorem Quu {w:Qv8} (h:Gw w) {e:Qv9} (he:e.Keys.length≤1048576):Post (Qc9 w e) Gw:=by
  unfold Qc9;refine .bd (Q:=fun _=>True) ?_ fun x1 _=>.ite (fun _=>.bd (Qqk h e) fun x hx=>.ret hx) fun _=>.ite (fun _=>.bd (Qqj h _) fun x hx=>.ret hx) fun _=>.bd (Qqi h he) fun x hx=>.ret hx;exact .ite (fun _=>.ret trivial) fun _=>.ite (fun _=>.ret trivial) fun _=>.ret trivial
theorem QrS {w:Qv8} (h:Gw w) {e:Qv9} (he:e.Keys.length≤1048576):Post (Qbf w e) Gw:=by
  unfold Qbf;refine .bd (Qmr h) fun x hx=>.ite (fun c=>by rw [hx] at c; cases c) fun _=>?_;rw [Qiw h,Qb];refine .bd (Quu h he) fun y hy=>?_;rw [Qiw hy,Qb];exact .ret hy
theorem Qql {w:Qv8} (h:Gw w):Post (ZC w) Gw:=by
  unfold ZC;refine .bd (Q:=fun x=>Gw ⟨x.2.2.1,x.2.2.2⟩) (.lp (fun s=>Gw ⟨s.1,s.2⟩) (fun s=>s.2.length) h fun s hs=>.ite (fun c=>.bd (Qgo hs ⟨Int.le_refl _,by simpa using c⟩) fun x ⟨x1,x2⟩=>.ret ⟨x1,by have x2:x.Radio.length+1=s.2.length:=x2; dsimp only; omega⟩) fun _=>.ret hs) fun x4 h4=>.bd (Qgp h4 (Nat.zero_le _)) fun x7 h7=>.bd (Qgp h7 (Nat.zero_le _)) fun x8 h8=>.bd (Q:=fun x=>Gw ⟨x.1,x.2.2.1⟩) (.lp (fun s=>Gw ⟨s.1,s.2⟩) (fun s=>s.2.length) h8 fun s hs=>.ite (fun c=>.bd (Qgo hs ⟨Int.le_refl _,by simpa using c⟩) fun x ⟨x1,x2⟩=>.ret ⟨x1,by have x2:x.Radio.length+1=s.2.length:=x2; dsimp only; omega⟩) fun _=>.ret hs) fun x12 h12=>.bd (Qgp h12 (Nat.zero_le _)) fun x15 h15=>.bd (Qgp h15 (Nat.zero_le _)) fun x16 h16=>.ret h16
theorem QrT {w:Qv8} (h:Gw w) (n:Int):Post (ZM w n) Gw:=by
  unfold ZM;refine .bd (Qmr h) fun x hx=>.ite (fun c=>by rw [hx] at c; cases c) fun _=>?_;rw [QrP h,Qb];refine .bd (Q:=fun x=>Gw ⟨x.2.2.1,x.2.2.2⟩) (.lp (fun s=>Gw ⟨s.1,s.2.1⟩∧0≤s.2.2∧s.2.2≤100) (fun s=>(100 - s.2.2).toNat) ⟨h,Int.le_refl _,by show (0:Int)≤100; decide⟩ fun s ⟨hs,s0,s1⟩=>.ite (fun c=>.bd (Qql hs) fun x hx=>.ret ⟨⟨hx,?_⟩,?_⟩) fun _=>.ret hs) fun x hx=>?_
  · simp only [Bool.and_eq_true,decide_eq_true_eq] at c;dsimp only;rw [wrap_i64 (by omega) (by omega)];omega
  · simp only [Bool.and_eq_true,decide_eq_true_eq] at c;dsimp only;rw [wrap_i64 (by omega) (by omega)];omega
  · rw [Qiw hx,Qb];exact .ret hx
end Go.Proofs.YtjgjdobkahdgfaaGreat
