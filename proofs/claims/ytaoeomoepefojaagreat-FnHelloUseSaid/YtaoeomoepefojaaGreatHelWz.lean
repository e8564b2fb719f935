/-
  Plain Lean: an end hears a word, the program's and the reference's alike; the row FnExactHelloHear.
-/
import Derived.Test.YtaoeomoepefojaaGreatKz6
import Derived.Test.YtaoeomoepefojaaGreatHelVz
import Derived.Test.YtaoeomoepefojaaGreatArgz
set_option linter.all false
namespace Go.Proofs.YtaoeomoepefojaaGreat
open Go Go.Ab
set_option maxHeartbeats 2000000
set_option maxRecDepth 100000
noncomputable def sRest2 (z:HelloEnd) (w:HelloWord):Option HelloEnd :=
(if ((decide (w.Change.Kind > 0)) && (w.Num == (IntKind.i64.wrap (z.Got+1))))=true then
 bd (spec_l43Told_m z.Heard w.Change) fun x9 =>
(if x9.2=true then
 bd (spec_l43Kept_m (⟨z.Name,z.Peer,z.Keys,z.Boot,z.Want,z.Turn,z.PeerBoot,z.PeerTurn,z.Up,z.Left,z.Num,(⟨z.Under.Kind,(⟨z.Under.Entry.Addr,z.Under.Entry.Len,z.Under.Entry.Cost,z.Under.Entry.Label⟩:HelloEntry)⟩:HelloChange),z.Told,z.All,w.Num,(z.Full || (w.Change.Kind == 3)),x9.1,z.Keep⟩:HelloEnd)) fun x10 =>
 some x10
else
 bd (spec_l43Kept_m (⟨z.Name,z.Peer,z.Keys,z.Boot,z.Want,z.Turn,z.PeerBoot,z.PeerTurn,z.Up,z.Left,z.Num,(⟨z.Under.Kind,(⟨z.Under.Entry.Addr,z.Under.Entry.Len,z.Under.Entry.Cost,z.Under.Entry.Label⟩:HelloEntry)⟩:HelloChange),z.Told,z.All,z.Got,z.Full,z.Heard,z.Keep⟩:HelloEnd)) fun x11 =>
 some x11)
else
 bd (spec_l43Kept_m (⟨z.Name,z.Peer,z.Keys,z.Boot,z.Want,z.Turn,z.PeerBoot,z.PeerTurn,z.Up,z.Left,z.Num,(⟨z.Under.Kind,(⟨z.Under.Entry.Addr,z.Under.Entry.Len,z.Under.Entry.Cost,z.Under.Entry.Label⟩:HelloEntry)⟩:HelloChange),z.Told,z.All,z.Got,z.Full,z.Heard,z.Keep⟩:HelloEnd)) fun x12 =>
 some x12)
noncomputable def sRest (y:HelloEnd) (w:HelloWord):Option HelloEnd :=
(if (!(w.Yours == y.Boot))=true then
 some (⟨y.Name,y.Peer,y.Keys,y.Boot,y.Want,y.Turn,y.PeerBoot,w.Turn,(w.Yours == y.Boot),4,y.Num,(⟨y.Under.Kind,(⟨y.Under.Entry.Addr,y.Under.Entry.Len,y.Under.Entry.Cost,y.Under.Entry.Label⟩:HelloEntry)⟩:HelloChange),y.Told,y.All,y.Got,y.Full,y.Heard,y.Keep⟩:HelloEnd)
else
 bd (α:=Int × Int × Int × Int × Int × Int × Int × Int × List HelloEntry × Bool × Int × Bool × List HelloKey × List HelloRoute × Int × Int × List HelloEntry × Int × Int × Int × Bool × Int) ((if ((decide (y.Under.Kind > 0)) && (w.Heard == y.Num))=true then
 bd (spec_l43Answered_m (⟨y.Name,y.Peer,y.Keys,y.Boot,y.Want,y.Turn,y.PeerBoot,w.Turn,(w.Yours == y.Boot),4,y.Num,(⟨y.Under.Kind,(⟨y.Under.Entry.Addr,y.Under.Entry.Len,y.Under.Entry.Cost,y.Under.Entry.Label⟩:HelloEntry)⟩:HelloChange),y.Told,y.All,y.Got,y.Full,y.Heard,y.Keep⟩:HelloEnd)) fun x8 =>
 some (x8.Name,x8.Peer,x8.Num,x8.Under.Kind,x8.Under.Entry.Addr,x8.Under.Entry.Len,x8.Under.Entry.Cost,x8.Under.Entry.Label,x8.Told,x8.All,x8.Got,x8.Full,x8.Keys,x8.Heard,x8.Keep,x8.Boot,x8.Want,x8.Turn,x8.PeerBoot,x8.PeerTurn,x8.Up,x8.Left)
else
 some (y.Name,y.Peer,y.Num,y.Under.Kind,y.Under.Entry.Addr,y.Under.Entry.Len,y.Under.Entry.Cost,y.Under.Entry.Label,y.Told,y.All,y.Got,y.Full,y.Keys,y.Heard,y.Keep,y.Boot,y.Want,y.Turn,y.PeerBoot,w.Turn,(w.Yours == y.Boot),4))) fun x5 =>
(if ((decide (w.Change.Kind > 0)) && (w.Num == (IntKind.i64.wrap (x5.2.2.2.2.2.2.2.2.2.2.1+1))))=true then
 bd (spec_l43Told_m x5.2.2.2.2.2.2.2.2.2.2.2.2.2.1 w.Change) fun x9 =>
(if x9.2=true then
 bd (spec_l43Kept_m (⟨x5.1,x5.2.1,x5.2.2.2.2.2.2.2.2.2.2.2.2.1,x5.2.2.2.2.2.2.2.2.2.2.2.2.2.2.2.1,x5.2.2.2.2.2.2.2.2.2.2.2.2.2.2.2.2.1,x5.2.2.2.2.2.2.2.2.2.2.2.2.2.2.2.2.2.1,x5.2.2.2.2.2.2.2.2.2.2.2.2.2.2.2.2.2.2.1,x5.2.2.2.2.2.2.2.2.2.2.2.2.2.2.2.2.2.2.2.1,x5.2.2.2.2.2.2.2.2.2.2.2.2.2.2.2.2.2.2.2.2.1,x5.2.2.2.2.2.2.2.2.2.2.2.2.2.2.2.2.2.2.2.2.2,x5.2.2.1,(⟨x5.2.2.2.1,(⟨x5.2.2.2.2.1,x5.2.2.2.2.2.1,x5.2.2.2.2.2.2.1,x5.2.2.2.2.2.2.2.1⟩:HelloEntry)⟩:HelloChange),x5.2.2.2.2.2.2.2.2.1,x5.2.2.2.2.2.2.2.2.2.1,w.Num,(x5.2.2.2.2.2.2.2.2.2.2.2.1 || (w.Change.Kind == 3)),x9.1,x5.2.2.2.2.2.2.2.2.2.2.2.2.2.2.1⟩:HelloEnd)) fun x10 =>
 some x10
else
 bd (spec_l43Kept_m (⟨x5.1,x5.2.1,x5.2.2.2.2.2.2.2.2.2.2.2.2.1,x5.2.2.2.2.2.2.2.2.2.2.2.2.2.2.2.1,x5.2.2.2.2.2.2.2.2.2.2.2.2.2.2.2.2.1,x5.2.2.2.2.2.2.2.2.2.2.2.2.2.2.2.2.2.1,x5.2.2.2.2.2.2.2.2.2.2.2.2.2.2.2.2.2.2.1,x5.2.2.2.2.2.2.2.2.2.2.2.2.2.2.2.2.2.2.2.1,x5.2.2.2.2.2.2.2.2.2.2.2.2.2.2.2.2.2.2.2.2.1,x5.2.2.2.2.2.2.2.2.2.2.2.2.2.2.2.2.2.2.2.2.2,x5.2.2.1,(⟨x5.2.2.2.1,(⟨x5.2.2.2.2.1,x5.2.2.2.2.2.1,x5.2.2.2.2.2.2.1,x5.2.2.2.2.2.2.2.1⟩:HelloEntry)⟩:HelloChange),x5.2.2.2.2.2.2.2.2.1,x5.2.2.2.2.2.2.2.2.2.1,x5.2.2.2.2.2.2.2.2.2.2.1,x5.2.2.2.2.2.2.2.2.2.2.2.1,x5.2.2.2.2.2.2.2.2.2.2.2.2.2.1,x5.2.2.2.2.2.2.2.2.2.2.2.2.2.2.1⟩:HelloEnd)) fun x11 =>
 some x11)
else
 bd (spec_l43Kept_m (⟨x5.1,x5.2.1,x5.2.2.2.2.2.2.2.2.2.2.2.2.1,x5.2.2.2.2.2.2.2.2.2.2.2.2.2.2.2.1,x5.2.2.2.2.2.2.2.2.2.2.2.2.2.2.2.2.1,x5.2.2.2.2.2.2.2.2.2.2.2.2.2.2.2.2.2.1,x5.2.2.2.2.2.2.2.2.2.2.2.2.2.2.2.2.2.2.1,x5.2.2.2.2.2.2.2.2.2.2.2.2.2.2.2.2.2.2.2.1,x5.2.2.2.2.2.2.2.2.2.2.2.2.2.2.2.2.2.2.2.2.1,x5.2.2.2.2.2.2.2.2.2.2.2.2.2.2.2.2.2.2.2.2.2,x5.2.2.1,(⟨x5.2.2.2.1,(⟨x5.2.2.2.2.1,x5.2.2.2.2.2.1,x5.2.2.2.2.2.2.1,x5.2.2.2.2.2.2.2.1⟩:HelloEntry)⟩:HelloChange),x5.2.2.2.2.2.2.2.2.1,x5.2.2.2.2.2.2.2.2.2.1,x5.2.2.2.2.2.2.2.2.2.2.1,x5.2.2.2.2.2.2.2.2.2.2.2.1,x5.2.2.2.2.2.2.2.2.2.2.2.2.2.1,x5.2.2.2.2.2.2.2.2.2.2.2.2.2.2.1⟩:HelloEnd)) fun x12 =>
 some x12))
def begun (e:HelloEnd) (w:HelloWord):HelloEnd:=if w.Boot > e.PeerBoot then { anew e with PeerBoot:=w.Boot } else e
def upTo (y:HelloEnd) (w:HelloWord):HelloEnd:={ y with PeerTurn:=w.Turn,Up:=(w.Yours == y.Boot),Left:=4 }
def answerV (e:HelloEnd):HelloEnd:={ e with Under:=⟨0,⟨0,0,0,0⟩⟩,Told:=applyT e.Told e.Under,All:=if e.Under.Kind=3 then true else e.All }
def heardA (e:HelloEnd) (w:HelloWord):HelloEnd:=if e.Under.Kind ≠ 0∧w.Heard=e.Num then answerV e else e
def heardC (e:HelloEnd) (w:HelloWord):HelloEnd:=if w.Change.Kind ≠ 0∧w.Num=e.Got+1 then (if (toldV e.Heard w.Change).2=true then { e with Heard:=(toldV e.Heard w.Change).1,Got:=w.Num,Full:=e.Full || (w.Change.Kind == 3) } else e) else e
def listenY (y:HelloEnd) (w:HelloWord):HelloEnd:=if w.Yours=y.Boot then kept (heardC (heardA (upTo y w) w) w) else upTo y w
def isNewV (e:HelloEnd) (w:HelloWord):Bool:=!(e.Boot == 1000) && rightV e.Keys w && (w.From == e.Peer) && (w.To == e.Name) && (decide (w.Boot > e.PeerBoot) || ((w.Boot == e.PeerBoot) && decide (w.Turn > e.PeerTurn)))
def helloHear (e:HelloEnd) (w:HelloWord):HelloEnd:=if endOk e=true then (if isNewV e w=true then listenY (begun e w) w else e) else noEnd
structure Hr (x:HelloEnd):Prop where
  under:changeOk x.Under=true
  told:Ord idE x.Told
  tl:x.Told.length≤9
  heard:Ord rE x.Heard
  hl:x.Heard.length≤16
  got:0≤x.Got∧x.Got≤1000000
theorem ok_hr {e:HelloEnd} (h:endOk e=true):Hr e:=by
  have g:inR e.Got 0 1000000=true∧changeOk e.Under=true∧tableOk e.Told=true∧heardOk e=true:=by
    simp only [endOk,Bool.and_eq_true] at h;exact ⟨h.1.1.1.1.1.1.1.1.1.1.1.1.2,h.1.1.1.1.1.2,h.1.1.2,h.2⟩
  obtain ⟨t1,t2⟩:=tableOk_ord g.2.2.1;obtain ⟨h1,h2⟩:=heardOk_ord g.2.2.2;exact ⟨g.2.1,t1,by omega,h1,h2,inR_iff.1 g.1⟩
theorem begun_hr {e:HelloEnd} (h:Hr e) (w:HelloWord):Hr (begun e w):=by
  unfold begun;split
  · exact ⟨rfl,⟨List.Pairwise.nil,fun x hx=>by cases hx⟩,Nat.zero_le _,stales_ord h.heard,by simpa [anew,stales] using h.hl,⟨Int.le_refl _,by show (0:Int)≤1000000; decide⟩⟩
  · exact h
theorem upTo_hr {e:HelloEnd} (h:Hr e) (w:HelloWord):Hr (upTo e w):=⟨h.under,h.told,h.tl,h.heard,h.hl,h.got⟩
theorem sAnswer_p {e:HelloEnd} (h:Hr e):spec_l43Answered_m e=some (answerV e):=by
  have:=h.tl;unfold spec_l43Answered_m answerV;rw [sApply_p (by omega) h.told,bd_val]
  by_cases c:e.Under.Kind=3
  · rw [if_pos (by simpa using c),if_pos c]
  · rw [if_neg (by simpa using c),if_neg c]
theorem told_len {t:List HelloRoute} (h:t.length≤16) (c:HelloChange):(toldV t c).1.length≤16:=by
  have w3:=posK_le (f:=rE) t c.Entry;have ho:=fun k=>(outR_sub t k).length_le;have into:∀ s:List HelloRoute,(intoR s c.Entry).length=s.length+1:=fun s=>by
    have:=posK_le (f:=rE) s c.Entry;simp [intoR]; omega
  unfold toldV hasV;split
  · split
    · simpa using h
    · split
      · cases hf:firstStale t with
        | none=>exact h
        | some s =>
          have:=outR_len (firstR_some hf).1;dsimp only;rw [into];have:=(firstR_some hf).1;omega
      · dsimp only;rw [into];omega
  · split
    · dsimp only;split
      · have:=ho (posK rE t c.Entry); omega
      · exact h
    · exact Nat.le_trans (List.length_filter_le _ _) h
theorem sRest2_p {z:HelloEnd} {w:HelloWord} (h1:Ord rE z.Heard) (h2:z.Heard.length≤16) (h3:0≤z.Got∧z.Got≤1000000) (hc:changeOk w.Change=true):sRest2 z w=some (kept (heardC z w)):=by
  have tl:=told_len h2 w.Change;unfold sRest2 heardC;rw [change_kind hc,wrap_i64 (by omega) (by omega),sTold_p (by omega) h1,bd_val]
  by_cases c:w.Change.Kind ≠ 0∧w.Num=z.Got+1
  · rw [if_pos (by simpa using c),if_pos c]
    cases ht:(toldV z.Heard w.Change).2
    · rw [if_neg (by decide),if_neg (by decide),sKept_p (by exact Nat.le_trans h2 (by decide)),bd_val]
    · rw [if_pos rfl,if_pos rfl,sKept_p (by exact Nat.le_trans tl (by decide)),bd_val]
  · rw [if_neg (by simpa using c),if_neg c,sKept_p (by exact Nat.le_trans h2 (by decide)),bd_val]
theorem sRest_p {y:HelloEnd} {w:HelloWord} (h:Hr y) (hc:changeOk w.Change=true):sRest y w=some (listenY y w):=by
  have hu:=upTo_hr h w;unfold sRest listenY;rw [change_kind h.under]
  by_cases c:w.Yours=y.Boot
  · rw [if_neg (by simpa using c),if_pos c];rw [show heardA (upTo y w) w=if y.Under.Kind ≠ 0∧w.Heard=y.Num then answerV (upTo y w) else upTo y w from rfl]
    by_cases c2:y.Under.Kind ≠ 0∧w.Heard=y.Num
    · rw [if_pos (by simpa using c2),if_pos c2];refine (congrArg (fun m=>bd (bd m _) _) (sAnswer_p hu)).trans ?_;rw [bd_val,bd_val];exact sRest2_p (z:=answerV (upTo y w)) h.heard h.hl h.got hc
    · rw [if_neg (by simpa using c2),if_neg c2,bd_val];exact sRest2_p (z:=upTo y w) h.heard h.hl h.got hc
  · rw [if_pos (by simpa using c),if_neg c]
    rfl
theorem sListen_p {e:HelloEnd} {w:HelloWord} (h:Hr e) (hc:changeOk w.Change=true):spec_l43Listen_m e w=some (listenY (begun e w) w):=by
  have hb:=begun_hr h w;have hl:=h.hl;unfold spec_l43Listen_m;unfold begun at hb ⊢
  by_cases c:w.Boot > e.PeerBoot
  · rw [if_pos c] at hb;rw [if_pos (by simpa using c),if_pos c,sAnew_p (by omega),bd_val,bd_val];exact sRest_p hb hc
  · rw [if_neg c] at hb;rw [if_neg (by simpa using c),if_neg c,bd_val];exact sRest_p hb hc
theorem listen_lens {y:HelloEnd} (h:Hr y) (w:HelloWord):(listenY y w).Keys=y.Keys∧(listenY y w).Want=y.Want∧(listenY y w).Told.length≤10∧(listenY y w).Heard.length≤16:=by
  have hk:∀ z:HelloEnd,(kept z).Keys=z.Keys∧(kept z).Want=z.Want∧(kept z).Told=z.Told∧(kept z).Heard=z.Heard:=fun z=>by
    unfold kept;split <;> exact ⟨rfl,rfl,rfl,rfl⟩
  have hc:∀ z:HelloEnd,z.Heard.length≤16→(heardC z w).Keys=z.Keys∧(heardC z w).Want=z.Want∧(heardC z w).Told=z.Told∧(heardC z w).Heard.length≤16:=fun z hz=>by
    unfold heardC;split
    · split
      · exact ⟨rfl,rfl,rfl,told_len hz _⟩
      · exact ⟨rfl,rfl,rfl,hz⟩
    · exact ⟨rfl,rfl,rfl,hz⟩
  have ha:(heardA (upTo y w) w).Keys=y.Keys∧(heardA (upTo y w) w).Want=y.Want∧(heardA (upTo y w) w).Told.length≤10∧(heardA (upTo y w) w).Heard=y.Heard:=by
    have tl:=h.tl;have al:=applyT_len (t:=y.Told) y.Under;unfold heardA;split
    · exact ⟨rfl,rfl,by show (applyT y.Told y.Under).length≤10; omega,rfl⟩
    · exact ⟨rfl,rfl,by show y.Told.length≤10; omega,rfl⟩
  unfold listenY;split
  · obtain ⟨a1,a2,a3,a4⟩:=ha;obtain ⟨b1,b2,b3,b4⟩:=hc (heardA (upTo y w) w) (by rw [a4]; exact h.hl);obtain ⟨d1,d2,d3,d4⟩:=hk (heardC (heardA (upTo y w) w) w);exact ⟨by rw [d1,b1,a1],by rw [d2,b2,a2],by rw [d3,b3]; exact a3,by rw [d4]; exact b4⟩
  · exact ⟨rfl,rfl,Nat.le_trans h.tl (by decide),h.hl⟩
theorem begun_lens {e:HelloEnd} {w:HelloWord}:(begun e w).Keys=e.Keys∧(begun e w).Want=e.Want:=by
  unfold begun;split <;> exact ⟨rfl,rfl⟩
theorem right_change {ks:List HelloKey} {w:HelloWord} (h:rightV ks w=true):changeOk w.Change=true:=by
  simp only [rightV,wordOk,Bool.and_eq_true] at h;exact h.1.2.1.2
theorem isNew_right {e:HelloEnd} {w:HelloWord} (h:isNewV e w=true):changeOk w.Change=true:=by
  simp only [isNewV,Bool.and_eq_true] at h;exact right_change h.1.1.1.2
theorem sHear_p {e:HelloEnd} (h:Lens e 1048576) (w:HelloWord):spec_HelloHear_m e w=some (helloHear e w):=by
  unfold spec_HelloHear_m helloHear;rw [sEnd_p h.k h.t,bd_val]
  cases hok:endOk e
  · rfl
  · obtain ⟨l1,l2,l3,l4⟩:=endOk_lens hok;have I:=ok_hr hok;have hb:=begun_hr I w;obtain ⟨t1,t2,t3,t4⟩:=listen_lens hb w;obtain ⟨b1,b2⟩:=begun_lens (e:=e) (w:=w);rw [if_neg (by decide),if_pos rfl,sCopy_p h.k h.w h.t h.h,bd_val,sRight_p h.k,gcall_nb,bd_val];have hv:isNewV e w=(!(e.Boot == 1000) && rightV e.Keys w && (w.From == e.Peer) && (w.To == e.Name) && (decide (w.Boot > e.PeerBoot) || ((w.Boot == e.PeerBoot) && decide (w.Turn > e.PeerTurn)))):=rfl;have hlt:(decide (w.Boot < e.PeerBoot) || ((w.Boot == e.PeerBoot) && decide (w.Turn≤e.PeerTurn)))=!(decide (w.Boot > e.PeerBoot) || ((w.Boot == e.PeerBoot) && decide (w.Turn > e.PeerTurn))):=by
      rw [Bool.eq_iff_iff];simp only [Bool.or_eq_true,Bool.and_eq_true,Bool.not_eq_true',Bool.or_eq_false_iff,Bool.and_eq_false_iff,decide_eq_true_eq,decide_eq_false_iff_not,beq_iff_eq,beq_eq_false_iff_ne];omega
    rw [hlt];split
    · rename_i c;have:isNewV e w=false:=by rw [hv]; clear hlt hv; grind
      rw [this]; rfl
    · rename_i c;split
      · rename_i c2;have:isNewV e w=false:=by rw [hv]; clear hlt hv; grind
        rw [this]; rfl
      · rename_i c2;have:isNewV e w=true:=by rw [hv]; clear hlt hv; grind
        rw [this,if_pos rfl,sListen_p I (isNew_right this),bd_val,sCopy_p (by rw [t1,b1]; exact h.k) (by rw [t2,b2]; exact h.w) (by omega) (by omega),bd_val]
theorem told_no {t:List HelloRoute} {c:HelloChange} (h:(toldV t c).2=false):(toldV t c).1=t∧c.Kind=1:=by
  unfold toldV at *
  by_cases c1:c.Kind=1
  · rw [if_pos c1] at *;refine ⟨?_,c1⟩;unfold hasV at *
    by_cases c2:hasK rE t c.Entry=true
    · rw [if_pos c2] at h; cases h
    · rw [if_neg c2] at *
      by_cases c3:t.length=16
      · rw [if_pos c3] at *
        cases hf:firstStale t with
        | none=>rfl
        | some s=>rw [hf] at h; cases h
      · rw [if_neg c3] at h; cases h
  · rw [if_neg c1] at h
    by_cases c2:c.Kind=2
    · rw [if_pos c2] at h; cases h
    · rw [if_neg c2] at h; cases h
theorem iNew_p {e:HelloEnd} (h:e.Keys.length≤1048576) (w:HelloWord):impl_HelloEnd_isNew_m e w=some (isNewV e w):=by
  have hv:isNewV e w=(!(e.Boot == 1000) && rightV e.Keys w && (w.From == e.Peer) && (w.To == e.Name) && (decide (w.Boot > e.PeerBoot) || ((w.Boot == e.PeerBoot) && decide (w.Turn > e.PeerTurn)))):=rfl;unfold impl_HelloEnd_isNew_m impl_HelloEnd_wornOut_m;rw [bd_val,iRight_p h,gcall_nb,bd_val];split
  · rename_i c;have:isNewV e w=false:=by rw [hv]; clear hv; grind
    rw [this]
  · rename_i c
    congr 1
    rw [hv]; clear hv; grind
theorem listen_same {y:HelloEnd} {w:HelloWord}:(listenY y w).Name=y.Name∧(listenY y w).Peer=y.Peer∧(listenY y w).Boot=y.Boot∧(listenY y w).Turn=y.Turn:=by
  have hk:∀ z:HelloEnd,(kept z).Name=z.Name∧(kept z).Peer=z.Peer∧(kept z).Boot=z.Boot∧(kept z).Turn=z.Turn:=fun z=>by
    unfold kept;split <;> exact ⟨rfl,rfl,rfl,rfl⟩
  have hc:∀ z:HelloEnd,(heardC z w).Name=z.Name∧(heardC z w).Peer=z.Peer∧(heardC z w).Boot=z.Boot∧(heardC z w).Turn=z.Turn:=fun z=>by
    unfold heardC;split
    · split <;> exact ⟨rfl,rfl,rfl,rfl⟩
    · exact ⟨rfl,rfl,rfl,rfl⟩
  have ha:(heardA (upTo y w) w).Name=y.Name∧(heardA (upTo y w) w).Peer=y.Peer∧(heardA (upTo y w) w).Boot=y.Boot∧(heardA (upTo y w) w).Turn=y.Turn:=by
    unfold heardA;split <;> exact ⟨rfl,rfl,rfl,rfl⟩
  unfold listenY;split
  · obtain ⟨a1,a2,a3,a4⟩:=ha;obtain ⟨b1,b2,b3,b4⟩:=hc (heardA (upTo y w) w);obtain ⟨d1,d2,d3,d4⟩:=hk (heardC (heardA (upTo y w) w) w);exact ⟨by rw [d1,b1,a1],by rw [d2,b2,a2],by rw [d3,b3,a3],by rw [d4,b4,a4]⟩
  · exact ⟨rfl,rfl,rfl,rfl⟩
end Go.Proofs.YtaoeomoepefojaaGreat
