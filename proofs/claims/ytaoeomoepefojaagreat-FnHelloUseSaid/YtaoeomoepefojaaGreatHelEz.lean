/-
  Plain Lean: steps and rounds of the reference's worlds.
-/
import Derived.Test.YtaoeomoepefojaaGreatKz6
import Derived.Test.YtaoeomoepefojaaGreatHelDz
set_option linter.all false
namespace Go.Proofs.YtaoeomoepefojaaGreat
open Go Go.Ab
set_option maxHeartbeats 1000000
set_option maxRecDepth 100000
theorem tick_same {e:HelloEnd} (h:Eo e):helloTick e=tickE e∧(tickE e).Name=e.Name∧(tickE e).Peer=e.Peer:=by
  refine ⟨by unfold helloTick; rw [if_pos (endOk_iff.2 h)],?_⟩;have k:(keepTick e).Name=e.Name∧(keepTick e).Peer=e.Peer:=by
    unfold keepTick;split <;> exact ⟨rfl,rfl⟩
  unfold tickE leftTick;generalize keepTick e=x at *;split
  · split <;> exact k
  · exact k
def downE (e:HelloEnd):HelloEnd:={ e with Turn:=0,PeerBoot:=0,PeerTurn:=0,Up:=false,Left:=0,Num:=0,Under:=⟨0,⟨0,0,0,0⟩⟩,Told:=[],All:=false,Got:=0,Full:=false,Heard:=[],Keep:=0 }
theorem down_eo {e:HelloEnd} (h:Eo e):Eo (downE e) :=
  ⟨h.name,h.peer,h.ne,h.keys,h.boot,(by show (0:Int)≤0∧(0:Int)≤1000000; decide),(by show (0:Int)≤0∧(0:Int)≤1000000; decide),(by show (0:Int)≤0∧(0:Int)≤1000000; decide),(by show (0:Int)≤0∧(0:Int)≤999; decide),⟨fun _=>rfl,fun _=>rfl⟩,(by show (0:Int)≤0∧(0:Int)≤4; decide),fun _=>rfl,fun q=>(by cases q),(by show (0:Int)≤0∧(0:Int)≤0; decide),rfl,fun _=>rfl,h.want,to_nil,to_nil,ro_nil _⟩
theorem lifez_p {e:HelloEnd} (h:Eo e) (hh:e.Heard=[]):spec_l43Life_z020_m e=some (lifeNext e):=by
  have hk:e.Keep=0:=by
    have:=h.heard.any;have k:=h.heard.keep;rw [hh] at this;have:¬ 0 < e.Keep:=fun q=>by
      have:=this.1 q
      cases this
    omega
  have hb:=h.boot;have stale:∀ x:HelloEnd,x.Heard=[]→spec_l43Stale_z020_m x=some x:=fun x hx=>by
    unfold spec_l43Stale_z020_m;rw [hx];have:lp (σ:=Unit) (β:=(Unit)) (fun s1 =>
        (if (decide ((0:Int) < ((([]:List HelloRoute).length:Nat):Int)))=true then
        none
        else
        some (.inr ()))) ()=some ():=lp_done (by rw [if_neg (by simp)])
    rw [this,bd_val,if_neg (by simp)]
  have an:∀ x:HelloEnd,x.Heard=[]→x.Keep=0→spec_l43Anew_z020_m x=some (anew x):=fun x hx hk=>by
    unfold spec_l43Anew_z020_m anew;rw [stale _ (by exact hx),bd_val,hx,hk]
    rfl
  unfold spec_l43Life_z020_m lifeNext
  by_cases c:e.Boot < 1000
  · rw [if_pos (by simpa using c),if_pos c,an _ (by exact hh) (by exact hk),bd_val,wrap_i64 (by omega) (by omega)]
  · rw [if_neg (by simpa using c),if_neg c,an _ (by exact hh) (by exact hk),bd_val]
theorem sideE_post {w:HelloWorld} (h:Gw w) {e:HelloEvent} (he:e.Keys.length≤1048576):Post (spec_l44Side_m w e) Gw:=by
  have hG:=h;obtain ⟨⟨a,b,hs,t⟩,hl,hw⟩:=h;obtain ⟨S,R⟩:=w;dsimp only at hs hl hw;subst hs;unfold spec_l44Side_m;rw [l41In_p,bd_val];refine .ite (fun _=>.ret hG) fun c=>?_;have hi:0≤e.At∧e.At < 2:=by
    have:inR e.At 0 1=true:=by simpa using c
    have:=inR_iff.1 this;omega
  have so:=side_so t hi;have hg:(0:Int)≤e.At∧e.At < ((([a,b]:List HelloSide).length:Nat):Int):=by simp; omega
  have mk:∀ s:HelloSide,So s→s.End.Name=(([a,b]:List HelloSide).getD e.At.toNat default).End.Name→s.End.Peer=(([a,b]:List HelloSide).getD e.At.toNat default).End.Peer→Gw ⟨([a,b]:List HelloSide).set e.At.toNat s,R⟩:=fun s h1 h2 h3=>⟨set_two t hi h1 h2 h3,hl,hw⟩;generalize hX:(([a,b]:List HelloSide).getD e.At.toNat default)=X at *;refine .gd hg (.bd (Q:=fun r=>match r with | .inl d=>Gw ⟨d.1,d.2⟩ | .inr d=>Gw ⟨d.2.2,d.1⟩) ?_ fun r hr=>?_)
  · refine .ite (fun _=>.ite (fun u=>.bd (sSay_post so.eo) fun x ⟨x1,x2,x3⟩=>.gd hg ?_) fun _=>.ret hG) fun _=>.ite (fun _=>.ite (fun u=>?_) fun _=>.ret hG) fun _=>.ite (fun _=>?_) fun _=>.ite (fun _=>.ite (fun u=>?_) fun _=>.ret hG) fun _=>.ite (fun _=>?_) fun _=>.ite (fun _=>?_) fun _=>.ret hG
    · have G:=mk ⟨X.Up,x.1⟩ ⟨x1,fun q=>by have q:X.Up=false:=q; rw [u] at q; cases q⟩ x2.1 x2.2;exact .ite (fun k=>.bd (put_post G (x3 k)) fun y hy=>.ret hy) fun _=>.ret G
    · obtain ⟨t1,t2,t3⟩:=tick_same so.eo;have L:=(eo_lens so.eo).mono (m:=1048576) (by decide);refine .bd (Q:=fun x=>x=tickE X.End) ⟨_,sTick_p L.k L.t,t1⟩ fun x hx=>.gd hg (.ret ?_);exact mk ⟨X.Up,x⟩ ⟨by rw [hx]; exact tick_eo so.eo,fun q=>by have q:X.Up=false:=q; rw [u] at q; cases q⟩ (by rw [hx]; exact t2) (by rw [hx]; exact t3)
    · have d:=down_eo so.eo;refine .bd (Q:=fun x=>x=downE X.End) ⟨_,?_,rfl⟩ fun x hx=>.gd hg (.ret ?_)
      · unfold spec_l44Down_m;refine (congrArg (fun m=>bd m _) (sCopyL_p ((eo_lens d).mono (by decide)))).trans ?_;rw [bd_val]
      · exact mk ⟨false,x⟩ ⟨by rw [hx]; exact d,fun _=>by rw [hx]; exact ⟨rfl,rfl,rfl,rfl,rfl,rfl,rfl,rfl,rfl,rfl⟩⟩ (by rw [hx]; rfl) (by rw [hx]; rfl)
    · have u:X.Up=false:=by simpa using u
      have d:=so.down u;have lf:=life_eo (bare_eo so.eo) so.eo.heard;refine .bd (Q:=fun x=>x=lifeNext X.End) ⟨_,lifez_p so.eo d.heard,rfl⟩ fun x hx=>.gd hg (.ret ?_);exact mk ⟨true,x⟩ ⟨by rw [hx]; exact lf,fun q=>by cases q⟩ (by rw [hx]; rfl) (by rw [hx]; rfl)
    · rw [sTable_p,bd_val];refine .ite (fun k=>?_) fun _=>.ret hG;have tw:=tableOk_iff.1 k;have:=tw.len;rw [sTab_p (by omega),bd_val];refine .gd hg ?_;rw [bd_val];refine .ret (mk ⟨X.Up,{ X.End with Want:=e.Want }⟩ ⟨{ so.eo with want:=tw },fun q=>?_⟩ rfl rfl);have d:=so.down q;exact ⟨d.turn,d.pboot,d.up,d.num,d.kind,d.told,d.all,d.got,d.full,d.heard⟩
    · rw [sKeys_p he,bd_val];refine .ite (fun k=>.bd (read_post hG) fun r ⟨r1,r2⟩=>?_) fun _=>.ret hG;unfold spec_l42Keys_m;rw [gd_pos (by omega),bd_val];refine .gd hg ?_;rw [bd_val];have G:=mk ⟨X.Up,{ X.End with Keys:=e.Keys }⟩ ⟨{ so.eo with keys:=k },fun q=>by
        have d:=so.down q;exact ⟨d.turn,d.pboot,d.up,d.num,d.kind,d.told,d.all,d.got,d.full,d.heard⟩⟩ rfl rfl
      exact .ret ⟨G.two,Nat.le_trans r1 hl,r2⟩
  · cases r with
    | inl d=>exact .ret hr
    | inr d=>exact .ret hr
theorem sideO_post {w:HelloWorld} (h:Gw w) {e:HelloEvent} (he:e.Keys.length≤1048576):Post (spec_l44Side_o00_01_m w e) Gw:=by
  have hG:=h;obtain ⟨⟨a,b,hs,t⟩,hl,hw⟩:=h;obtain ⟨S,R⟩:=w;dsimp only at hs hl hw;subst hs;unfold spec_l44Side_o00_01_m;rw [l41In_p,bd_val];refine .ite (fun _=>.ret hG) fun c=>?_;have hi:0≤e.At∧e.At < 2:=by
    have:inR e.At 0 1=true:=by simpa using c
    have:=inR_iff.1 this;omega
  have so:=side_so t hi;have hg:(0:Int)≤e.At∧e.At < ((([a,b]:List HelloSide).length:Nat):Int):=by simp; omega
  have mk:∀ s:HelloSide,So s→s.End.Name=(([a,b]:List HelloSide).getD e.At.toNat default).End.Name→s.End.Peer=(([a,b]:List HelloSide).getD e.At.toNat default).End.Peer→Gw ⟨([a,b]:List HelloSide).set e.At.toNat s,R⟩:=fun s h1 h2 h3=>⟨set_two t hi h1 h2 h3,hl,hw⟩;generalize hX:(([a,b]:List HelloSide).getD e.At.toNat default)=X at *;refine .gd hg (.bd (Q:=fun r=>match r with | .inl d=>Gw ⟨d.1,d.2⟩ | .inr d=>Gw ⟨d.1,d.2.2.1⟩) ?_ fun r hr=>?_)
  · refine .ite (fun _=>.ite (fun u=>.bd (sSay_post so.eo) fun x ⟨x1,x2,x3⟩=>.gd hg ?_) fun _=>.ret hG) fun _=>.ite (fun _=>.ite (fun u=>?_) fun _=>.ret hG) fun _=>.ite (fun _=>?_) fun _=>.ite (fun _=>.ite (fun u=>?_) fun _=>.ret hG) fun _=>.ite (fun _=>?_) fun _=>.ite (fun _=>?_) fun _=>.ret hG
    · have G:=mk ⟨X.Up,x.1⟩ ⟨x1,fun q=>by have q:X.Up=false:=q; rw [u] at q; cases q⟩ x2.1 x2.2;exact .ite (fun k=>.bd (putO_post G (x3 k)) fun y hy=>.ret hy) fun _=>.ret G
    · obtain ⟨t1,t2,t3⟩:=tick_same so.eo;have L:=(eo_lens so.eo).mono (m:=1048576) (by decide);refine .bd (Q:=fun x=>x=tickE X.End) ⟨_,sTick_p L.k L.t,t1⟩ fun x hx=>.gd hg (.ret ?_);exact mk ⟨X.Up,x⟩ ⟨by rw [hx]; exact tick_eo so.eo,fun q=>by have q:X.Up=false:=q; rw [u] at q; cases q⟩ (by rw [hx]; exact t2) (by rw [hx]; exact t3)
    · have d:=down_eo so.eo;refine .bd (Q:=fun x=>x=downE X.End) ⟨_,?_,rfl⟩ fun x hx=>.gd hg (.ret ?_)
      · unfold spec_l44Down_m;refine (congrArg (fun m=>bd m _) (sCopyL_p ((eo_lens d).mono (by decide)))).trans ?_;rw [bd_val]
      · exact mk ⟨false,x⟩ ⟨by rw [hx]; exact d,fun _=>by rw [hx]; exact ⟨rfl,rfl,rfl,rfl,rfl,rfl,rfl,rfl,rfl,rfl⟩⟩ (by rw [hx]; rfl) (by rw [hx]; rfl)
    · have u:X.Up=false:=by simpa using u
      have d:=so.down u;have lf:=life_eo (bare_eo so.eo) so.eo.heard;refine .bd (Q:=fun x=>x=lifeNext X.End) ⟨_,lifez_p so.eo d.heard,rfl⟩ fun x hx=>.gd hg (.ret ?_);exact mk ⟨true,x⟩ ⟨by rw [hx]; exact lf,fun q=>by cases q⟩ (by rw [hx]; rfl) (by rw [hx]; rfl)
    · rw [sTable_p,bd_val];refine .ite (fun k=>?_) fun _=>.ret hG;have tw:=tableOk_iff.1 k;have:=tw.len;rw [sTab_p (by omega),bd_val];refine .gd hg ?_;rw [bd_val];refine .ret (mk ⟨X.Up,{ X.End with Want:=e.Want }⟩ ⟨{ so.eo with want:=tw },fun q=>?_⟩ rfl rfl);have d:=so.down q;exact ⟨d.turn,d.pboot,d.up,d.num,d.kind,d.told,d.all,d.got,d.full,d.heard⟩
    · rw [sKeys_p he,bd_val];refine .ite (fun k=>.bd (read_post hG) fun r ⟨r1,r2⟩=>?_) fun _=>.ret hG;unfold spec_l42Keys_m;rw [gd_pos (by omega),bd_val];refine .gd hg ?_;rw [bd_val];have G:=mk ⟨X.Up,{ X.End with Keys:=e.Keys }⟩ ⟨{ so.eo with keys:=k },fun q=>by
        have d:=so.down q;exact ⟨d.turn,d.pboot,d.up,d.num,d.kind,d.told,d.all,d.got,d.full,d.heard⟩⟩ rfl rfl
      exact .ret ⟨G.two,Nat.le_trans r1 hl,r2⟩
  · cases r with
    | inl d=>exact .ret hr
    | inr d=>exact .ret hr
theorem forge_post {w:HelloWorld} (h:Gw w) (x:HelloWord):Post (spec_l44Forge_m w x) Gw:=by
  have hG:=h;obtain ⟨⟨a,b,hs,t⟩,hl,hw⟩:=h;have ka:=(eo_lens t.a.eo).k;have kb:=(eo_lens t.b.eo).k;unfold spec_l44Forge_m;rw [sWord_p,bd_val,hs];refine .gd (fun _=>by simp) (.bd (Q:=fun _=>True) (.gcall (fun _=>⟨_,sRight_p (by exact Nat.le_trans ka (by decide)) _,trivial⟩) fun _=>trivial) fun x3 _=>.gd (fun _=>by simp) (.bd (Q:=fun _=>True) (.gcall (fun _=>⟨_,sRight_p (by exact Nat.le_trans kb (by decide)) _,trivial⟩) fun _=>trivial) fun x5 _=>.ite (fun _=>.ret hG) fun c=>.bd (put_post hG ?_) fun y hy=>.ret hy));simp only [Bool.or_eq_true,not_or,Bool.not_eq_true,Bool.not_eq_false'] at c;exact c.1.1
theorem wordE_post {w:HelloWorld} (h:Gw w) (e:HelloEvent):Post (spec_l44Word_m w e) Gw:=by
  have hl:=h.len;unfold spec_l44Word_m;rw [l41In_p,bd_val,wrap_i64 (n:=((w.Radio.length:Nat):Int) - 1) (by omega) (by omega)];refine .ite (fun _=>.ret h) fun c=>?_;have hi:0≤e.At∧e.At < (w.Radio.length:Int):=by
    have:inR e.At 0 (((w.Radio.length:Nat):Int) - 1)=true:=by simpa using c
    have:=inR_iff.1 this;omega
  refine .ite (fun _=>.bd (bring_post h hi) fun x hx=>.ret hx.1) fun _=>.ite (fun _=>.gd hi (.bd (put_post h (h.words _ (getD_mem (by omega)))) fun x hx=>.ret hx)) fun _=>?_;rw [cut_eq hi hl,wrap_i64 (n:=e.At+1) (by omega) (by omega)];refine .gd (by omega) (.gd (by omega) (.gd (by omega) (.gd ?_ (.ret ⟨h.two,?_,cut_words h.words⟩))))
  · simp [dsub_eq]; omega
  · simp; omega
theorem do_post {w:HelloWorld} (h:Gw w) {e:HelloEvent} (he:e.Keys.length≤1048576):Post (spec_l44Do_m w e) Gw:=by
  unfold spec_l44Do_m;refine .bd (Q:=fun _=>True) ?_ fun x1 _=>.ite (fun _=>.bd (wordE_post h e) fun x hx=>.ret hx) fun _=>.ite (fun _=>.bd (forge_post h _) fun x hx=>.ret hx) fun _=>.bd (sideE_post h he) fun x hx=>.ret hx;exact .ite (fun _=>.ret trivial) fun _=>.ite (fun _=>.ret trivial) fun _=>.ret trivial
theorem step_post {w:HelloWorld} (h:Gw w) {e:HelloEvent} (he:e.Keys.length≤1048576):Post (spec_HelloStep_m w e) Gw:=by
  unfold spec_HelloStep_m;refine .bd (world_p h) fun x hx=>.ite (fun c=>by rw [hx] at c; cases c) fun _=>?_;rw [copyW_p h,bd_val];refine .bd (do_post h he) fun y hy=>?_;rw [copyW_p hy,bd_val];exact .ret hy
theorem round_post {w:HelloWorld} (h:Gw w):Post (spec_l45Round_o00_01_m w) Gw:=by
  unfold spec_l45Round_o00_01_m;refine .bd (Q:=fun x=>Gw ⟨x.2.2.1,x.2.2.2⟩) (.lp (fun s=>Gw ⟨s.1,s.2⟩) (fun s=>s.2.length) h fun s hs=>.ite (fun c=>.bd (bring_post hs ⟨Int.le_refl _,by simpa using c⟩) fun x ⟨x1,x2⟩=>.ret ⟨x1,by have x2:x.Radio.length+1=s.2.length:=x2; dsimp only; omega⟩) fun _=>.ret hs) fun x4 h4=>.bd (sideO_post h4 (Nat.zero_le _)) fun x7 h7=>.bd (sideO_post h7 (Nat.zero_le _)) fun x8 h8=>.bd (Q:=fun x=>Gw ⟨x.1,x.2.2.1⟩) (.lp (fun s=>Gw ⟨s.1,s.2⟩) (fun s=>s.2.length) h8 fun s hs=>.ite (fun c=>.bd (bring_post hs ⟨Int.le_refl _,by simpa using c⟩) fun x ⟨x1,x2⟩=>.ret ⟨x1,by have x2:x.Radio.length+1=s.2.length:=x2; dsimp only; omega⟩) fun _=>.ret hs) fun x12 h12=>.bd (sideO_post h12 (Nat.zero_le _)) fun x15 h15=>.bd (sideO_post h15 (Nat.zero_le _)) fun x16 h16=>.ret h16
theorem calm_post {w:HelloWorld} (h:Gw w) (n:Int):Post (spec_HelloCalm_m w n) Gw:=by
  unfold spec_HelloCalm_m;refine .bd (world_p h) fun x hx=>.ite (fun c=>by rw [hx] at c; cases c) fun _=>?_;rw [copyO_p h,bd_val];refine .bd (Q:=fun x=>Gw ⟨x.2.2.1,x.2.2.2⟩) (.lp (fun s=>Gw ⟨s.1,s.2.1⟩∧0≤s.2.2∧s.2.2≤100) (fun s=>(100 - s.2.2).toNat) ⟨h,Int.le_refl _,by show (0:Int)≤100; decide⟩ fun s ⟨hs,s0,s1⟩=>.ite (fun c=>.bd (round_post hs) fun x hx=>.ret ⟨⟨hx,?_⟩,?_⟩) fun _=>.ret hs) fun x hx=>?_
  · simp only [Bool.and_eq_true,decide_eq_true_eq] at c;dsimp only;rw [wrap_i64 (by omega) (by omega)];omega
  · simp only [Bool.and_eq_true,decide_eq_true_eq] at c;dsimp only;rw [wrap_i64 (by omega) (by omega)];omega
  · rw [copyW_p hx,bd_val];exact .ret hx
end Go.Proofs.YtaoeomoepefojaaGreat
