/-
  Plain Lean: an end that hears a word, over the program's first contracts.
-/
import Derived.Test.YtaoeomoepefojaaGreatKz6
import Derived.Test.YtaoeomoepefojaaGreatHelTbz
set_option linter.all false
namespace Go.Proofs.YtaoeomoepefojaaGreat
open Go Go.Ab
set_option maxHeartbeats 2000000
set_option maxRecDepth 100000
noncomputable def iRestb (y:HelloEnd) (w:HelloWord):Option HelloEnd :=
(if (!(w.Yours == y.Boot))=true then
 some ({ y with PeerBoot:=y.PeerBoot,PeerTurn:=w.Turn,Up:=(w.Yours == y.Boot),Left:=4,Num:=y.Num,Under:=(⟨y.Under.Kind,(⟨y.Under.Entry.Addr,y.Under.Entry.Len,y.Under.Entry.Cost,y.Under.Entry.Label⟩:HelloEntry)⟩:HelloChange),Told:=y.Told,All:=y.All,Got:=y.Got,Full:=y.Full,Heard:=y.Heard,Keep:=y.Keep })
else
 bd (α:=List HelloRoute × Int × Int × Int × Int × Int × List HelloEntry × Bool) ((if ((y.Under.Kind != 0) && (w.Heard == y.Num))=true then
 bd (impl_HelloEnd_answered_r020_m ({ y with PeerBoot:=y.PeerBoot,PeerTurn:=w.Turn,Up:=(w.Yours == y.Boot),Left:=4,Num:=y.Num,Under:=(⟨y.Under.Kind,(⟨y.Under.Entry.Addr,y.Under.Entry.Len,y.Under.Entry.Cost,y.Under.Entry.Label⟩:HelloEntry)⟩:HelloChange),Told:=y.Told,All:=y.All,Got:=y.Got,Full:=y.Full,Heard:=y.Heard,Keep:=y.Keep })) fun x9 =>
 some (x9.Heard,x9.Under.Kind,x9.Under.Entry.Addr,x9.Under.Entry.Len,x9.Under.Entry.Cost,x9.Under.Entry.Label,x9.Told,x9.All)
else
 some (y.Heard,y.Under.Kind,y.Under.Entry.Addr,y.Under.Entry.Len,y.Under.Entry.Cost,y.Under.Entry.Label,y.Told,y.All))) fun x6 =>
 bd (α:=List HelloRoute × Int × Bool) ((if ((w.Change.Kind != 0) && (w.Num == (IntKind.i64.wrap (y.Got+1))))=true then
 bd (impl_HelloEnd_take_m ({ y with PeerBoot:=y.PeerBoot,PeerTurn:=w.Turn,Up:=(w.Yours == y.Boot),Left:=4,Num:=y.Num,Under:=(⟨x6.2.1,(⟨x6.2.2.1,x6.2.2.2.1,x6.2.2.2.2.1,x6.2.2.2.2.2.1⟩:HelloEntry)⟩:HelloChange),Told:=x6.2.2.2.2.2.2.1,All:=x6.2.2.2.2.2.2.2,Got:=y.Got,Full:=y.Full,Heard:=x6.1,Keep:=y.Keep }) w.Change) fun x14 =>
(if (((w.Change.Kind != 0) && (w.Num == (IntKind.i64.wrap (y.Got+1)))) && x14.1)=true then
 some (x14.2.Heard,w.Num,x14.2.Full)
else
 some (x14.2.Heard,y.Got,x14.2.Full))
else
(if (((w.Change.Kind != 0) && (w.Num == (IntKind.i64.wrap (y.Got+1)))) && false)=true then
 some (x6.1,w.Num,y.Full)
else
 some (x6.1,y.Got,y.Full)))) fun x10 =>
 bd (impl_anyStale_m x10.1) fun x15 =>
(if (!x15)=true then
 some ({ y with PeerBoot:=y.PeerBoot,PeerTurn:=w.Turn,Up:=(w.Yours == y.Boot),Left:=4,Num:=y.Num,Under:=(⟨x6.2.1,(⟨x6.2.2.1,x6.2.2.2.1,x6.2.2.2.2.1,x6.2.2.2.2.2.1⟩:HelloEntry)⟩:HelloChange),Told:=x6.2.2.2.2.2.2.1,All:=x6.2.2.2.2.2.2.2,Got:=x10.2.1,Full:=x10.2.2,Heard:=x10.1,Keep:=0 })
else
 some ({ y with PeerBoot:=y.PeerBoot,PeerTurn:=w.Turn,Up:=(w.Yours == y.Boot),Left:=4,Num:=y.Num,Under:=(⟨x6.2.1,(⟨x6.2.2.1,x6.2.2.2.1,x6.2.2.2.2.1,x6.2.2.2.2.2.1⟩:HelloEntry)⟩:HelloChange),Told:=x6.2.2.2.2.2.2.1,All:=x6.2.2.2.2.2.2.2,Got:=x10.2.1,Full:=x10.2.2,Heard:=x10.1,Keep:=y.Keep })))
noncomputable def iRest2b (z:HelloEnd) (w:HelloWord):Option HelloEnd :=
 bd (α:=List HelloRoute × Int × Bool) ((if ((w.Change.Kind != 0) && (w.Num == (IntKind.i64.wrap (z.Got+1))))=true then
 bd (impl_HelloEnd_take_m ({ z with PeerBoot:=z.PeerBoot,PeerTurn:=z.PeerTurn,Up:=z.Up,Left:=z.Left,Num:=z.Num,Under:=(⟨z.Under.Kind,(⟨z.Under.Entry.Addr,z.Under.Entry.Len,z.Under.Entry.Cost,z.Under.Entry.Label⟩:HelloEntry)⟩:HelloChange),Told:=z.Told,All:=z.All,Got:=z.Got,Full:=z.Full,Heard:=z.Heard,Keep:=z.Keep }) w.Change) fun x14 =>
(if (((w.Change.Kind != 0) && (w.Num == (IntKind.i64.wrap (z.Got+1)))) && x14.1)=true then
 some (x14.2.Heard,w.Num,x14.2.Full)
else
 some (x14.2.Heard,z.Got,x14.2.Full))
else
(if (((w.Change.Kind != 0) && (w.Num == (IntKind.i64.wrap (z.Got+1)))) && false)=true then
 some (z.Heard,w.Num,z.Full)
else
 some (z.Heard,z.Got,z.Full)))) fun x10 =>
 bd (impl_anyStale_m x10.1) fun x15 =>
(if (!x15)=true then
 some ({ z with PeerBoot:=z.PeerBoot,PeerTurn:=z.PeerTurn,Up:=z.Up,Left:=z.Left,Num:=z.Num,Under:=(⟨z.Under.Kind,(⟨z.Under.Entry.Addr,z.Under.Entry.Len,z.Under.Entry.Cost,z.Under.Entry.Label⟩:HelloEntry)⟩:HelloChange),Told:=z.Told,All:=z.All,Got:=x10.2.1,Full:=x10.2.2,Heard:=x10.1,Keep:=0 })
else
 some ({ z with PeerBoot:=z.PeerBoot,PeerTurn:=z.PeerTurn,Up:=z.Up,Left:=z.Left,Num:=z.Num,Under:=(⟨z.Under.Kind,(⟨z.Under.Entry.Addr,z.Under.Entry.Len,z.Under.Entry.Cost,z.Under.Entry.Label⟩:HelloEntry)⟩:HelloChange),Told:=z.Told,All:=z.All,Got:=x10.2.1,Full:=x10.2.2,Heard:=x10.1,Keep:=z.Keep }))
theorem iLearnb_p {x:HelloEnd} (h:x.Heard.length≤1048576) (ho:Ord rE x.Heard) {e:HelloEntry} (he:0≤e.Len∧e.Len≤16∧0≤e.Addr∧e.Addr≤65535):impl_HelloEnd_learn_m x e=some ((hasV x.Heard e).2,{ x with Heard:=(hasV x.Heard e).1 }):=by
  unfold impl_HelloEnd_learn_m hasV;rw [iPrefix_p,bd_val,iFindE_p h ho he,bd_val];dsimp only
  cases hh:hasK rE x.Heard e
  · simp only [Bool.false_eq_true,if_false]
    by_cases c:x.Heard.length=16
    · rw [if_pos (by simp <;> omega),if_pos c,iFirstL_p h,bd_val]
      cases hf:firstStale x.Heard with
      | none=>rfl
      | some s =>
        have hs:=(firstR_some hf).1;have hl:=outR_len hs;dsimp only;rw [if_neg (by simp <;> omega),iDelR_p h hs,bd_val,bd_val];dsimp only;rw [bd_val,iFindE_p (x:={ x with Heard:=outR x.Heard s }) (by dsimp only; omega) (sub_ord ho (outR_sub _ _)) he,bd_val];dsimp only;rw [iInsR_p (by omega),bd_val]
    · rw [if_neg (by simp <;> omega),if_neg c,bd_val];dsimp only;rw [bd_val,iFindE_p (x:={ x with Heard:=x.Heard }) (by exact h) ho he,bd_val];dsimp only;rw [iInsR_p (by omega),bd_val]
  · have:=(hasK_iff.1 hh).1;rw [if_pos rfl,if_pos rfl,gd_pos (by omega),Int.toNat_natCast]
theorem iTakeb_p {x:HelloEnd} (h:x.Heard.length≤1048576) (ho:Ord rE x.Heard) {c:HelloChange} (hc:changeOk c=true) (h0:c.Kind ≠ 0):impl_HelloEnd_take_m x c=some ((toldV x.Heard c).2,{ x with Heard:=(toldV x.Heard c).1,Full:=x.Full || (c.Kind == 3) }):=by
  have hk:c.Kind=3 ∨ c.Kind=1 ∨ c.Kind=2:=by
    unfold changeOk at hc;split at hc
    · omega
    · split at hc
      · omega
      · split at hc
        · omega
        · cases hc
  unfold impl_HelloEnd_take_m toldV;rw [iLearnb_p h ho (change_range hc),bd_val,iPrefix_p,bd_val,iFindE_p h ho (change_range hc),bd_val];dsimp only;rcases hk with k | k | k
  · simp only [k,show ((3:Int) == 1)=false from rfl,show ((3:Int) == 2)=false from rfl,show ((3:Int) == 3)=true from rfl,Bool.false_eq_true,if_false,if_true,show ¬ ((3:Int)=1) from by decide,show ¬ ((3:Int)=2) from by decide,Bool.or_true];unfold impl_HelloEnd_dropStale_m;rw [iDrop_p h,bd_val,bd_val]
  · simp only [k,show ((1:Int) == 1)=true from rfl,show ((1:Int) == 3)=false from rfl,if_true,Bool.or_false]
  · simp only [k,show ((2:Int) == 1)=false from rfl,show ((2:Int) == 2)=true from rfl,show ((2:Int) == 3)=false from rfl,Bool.false_eq_true,if_false,if_true,show ¬ ((2:Int)=1) from by decide,Bool.or_false]
    cases hh:hasK rE x.Heard c.Entry
    · rfl
    · rw [if_pos rfl,if_pos rfl,iDelR_p h (hasK_iff.1 hh).1,bd_val]
theorem iAnswerb_p {e:HelloEnd} (h:Hr e):impl_HelloEnd_answered_r020_m e=some (answerV e):=by
  have:=h.tl;unfold impl_HelloEnd_answered_r020_m answerV;rw [iChanged_p (by omega) h.told h.under]
  by_cases c:e.Under.Kind=3
  · rw [if_pos (by simpa using c),if_pos c,bd_val,bd_val]
  · rw [if_neg (by simpa using c),if_neg c,bd_val,bd_val]
theorem iRest2b_p {z:HelloEnd} {w:HelloWord} (h1:Ord rE z.Heard) (h2:z.Heard.length≤16) (h3:0≤z.Got∧z.Got≤1000000) (hc:changeOk w.Change=true):iRest2b z w=some (kept (heardC z w)):=by
  have tl:=told_len h2 w.Change;unfold iRest2b heardC;rw [wrap_i64 (by omega) (by omega)]
  by_cases c:w.Change.Kind ≠ 0∧w.Num=z.Got+1
  · have hb:((w.Change.Kind != 0) && (w.Num == z.Got+1))=true:=by simpa using c
    rw [hb,if_pos rfl,if_pos c,iTakeb_p (by exact Nat.le_trans h2 (by decide)) (by exact h1) hc c.1,bd_val];dsimp only;rw [Bool.true_and]
    cases ht:(toldV z.Heard w.Change).2
    · obtain ⟨e1,e2⟩:=told_no ht;rw [if_neg (by decide),if_neg (by decide),bd_val];dsimp only;rw [e1,iStale_p (by omega),bd_val,e2,show ((1:Int) == 3)=false from rfl,Bool.or_false];unfold kept
      cases staleAny z.Heard <;> rfl
    · rw [if_pos rfl,if_pos rfl,bd_val];dsimp only;rw [iStale_p (by omega),bd_val];unfold kept;dsimp only
      cases staleAny (toldV z.Heard w.Change).1 <;> rfl
  · have hb:((w.Change.Kind != 0) && (w.Num == z.Got+1))=false:=by
      rw [Bool.eq_false_iff];intro q;exact c (by simpa using q)
    rw [hb,if_neg (by decide),if_neg c,Bool.false_and,if_neg (by decide),bd_val];dsimp only;rw [iStale_p (by omega),bd_val];unfold kept
    cases staleAny z.Heard <;> rfl
theorem iRestb_p {y:HelloEnd} {w:HelloWord} (h:Hr y) (hc:changeOk w.Change=true):iRestb y w=some (listenY y w):=by
  have hu:=upTo_hr h w;unfold iRestb listenY
  by_cases c:w.Yours=y.Boot
  · rw [if_neg (by simpa using c),if_pos c];rw [show heardA (upTo y w) w=if y.Under.Kind ≠ 0∧w.Heard=y.Num then answerV (upTo y w) else upTo y w from rfl]
    by_cases c2:y.Under.Kind ≠ 0∧w.Heard=y.Num
    · rw [if_pos (by simpa using c2),if_pos c2];refine (congrArg (fun m=>bd (bd m _) _) (iAnswerb_p hu)).trans ?_;rw [bd_val,bd_val];exact iRest2b_p (z:=answerV (upTo y w)) h.heard h.hl h.got hc
    · rw [if_neg (by simpa using c2),if_neg c2,bd_val];exact iRest2b_p (z:=upTo y w) h.heard h.hl h.got hc
  · rw [if_pos (by simpa using c),if_neg c]
    rfl
theorem iHearEb_p {e:HelloEnd} {w:HelloWord} (hk:e.Keys.length≤1048576) (h:Hr e):impl_HelloEnd_hear_m e w=some (if isNewV e w=true then listenY (begun e w) w else e):=by
  have hb:=begun_hr h w;have hl:=h.hl;unfold impl_HelloEnd_hear_m;rw [iNew_p hk,bd_val]
  cases hn:isNewV e w
  · rfl
  · have hc:=isNew_right hn;rw [if_neg (by decide),if_pos rfl];unfold begun at hb ⊢
    by_cases c:w.Boot > e.PeerBoot
    · rw [if_pos c] at hb;rw [if_pos (by simpa using c),if_pos c,iAnewb_p (by omega),bd_val,bd_val];exact iRestb_p hb hc
    · rw [if_neg c] at hb;rw [if_neg (by simpa using c),if_neg c,bd_val];exact iRestb_p hb hc
theorem iHearb_p {e:HelloEnd} (h:Lens e 1048576) (w:HelloWord):impl_HelloHear_m e w=some (helloHear e w):=by
  unfold impl_HelloHear_m helloHear;rw [iEnd_p h.k h.w h.t h.h,bd_val]
  cases hok:endOk e
  · rfl
  · rw [if_neg (by decide),if_pos rfl,iCopy_p h,bd_val,iHearEb_p h.k (ok_hr hok),bd_val]
    cases hn:isNewV e w
    · rfl
    · rw [if_pos rfl];obtain ⟨q1,q2,q3,q4⟩:=listen_same (y:=begun e w) (w:=w);have hb:(begun e w).Name=e.Name∧(begun e w).Peer=e.Peer∧(begun e w).Boot=e.Boot∧(begun e w).Turn=e.Turn:=by
        unfold begun;split <;> exact ⟨rfl,rfl,rfl,rfl⟩
      rw [hb.1] at q1;rw [hb.2.1] at q2;rw [hb.2.2.1] at q3;rw [hb.2.2.2] at q4;obtain ⟨t1,t2,_,_⟩:=listen_lens (begun_hr (ok_hr hok) w) w;obtain ⟨b1,b2⟩:=begun_lens (e:=e) (w:=w);rw [b1] at t1;rw [b2] at t2;rw [← q1,← q2,← q3,← q4,← t1,← t2]
end Go.Proofs.YtaoeomoepefojaaGreat
