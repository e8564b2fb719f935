/-
  Plain Lean: an end that hears a word, over the program's first contracts.
-/
import Derived.Test.YtjgjdobkahdgfaaGreatKz5
import Derived.Test.YtjgjdobkahdgfaaGreatHelTbz
set_option linter.all false
namespace Go.Proofs.YtjgjdobkahdgfaaGreat
open Go Go.Ab
set_option maxHeartbeats 2000000
set_option maxRecDepth 100000
noncomputable def QuH (y:Qxp) (w:Qxr):Option Qxp :=
(if (!(w.Yours == y.Boot))=true then
 some ({ y with PeerBoot:=y.PeerBoot,PeerTurn:=w.Turn,Up:=(w.Yours == y.Boot),Left:=4,Num:=y.Num,Under:=(⟨y.Under.Kind,(⟨y.Under.Entry.Addr,y.Under.Entry.Len,y.Under.Entry.Cost,y.Under.Entry.Label⟩:Qxm)⟩:Qxn),Told:=y.Told,All:=y.All,Got:=y.Got,Full:=y.Full,Heard:=y.Heard,Keep:=y.Keep })
else
 bd (α:=List Qxo × Int × Int × Int × Int × Int × List Qxm × Bool) ((if ((y.Under.Kind != 0) && (w.Heard == y.Num))=true then
 bd (Zf ({ y with PeerBoot:=y.PeerBoot,PeerTurn:=w.Turn,Up:=(w.Yours == y.Boot),Left:=4,Num:=y.Num,Under:=(⟨y.Under.Kind,(⟨y.Under.Entry.Addr,y.Under.Entry.Len,y.Under.Entry.Cost,y.Under.Entry.Label⟩:Qxm)⟩:Qxn),Told:=y.Told,All:=y.All,Got:=y.Got,Full:=y.Full,Heard:=y.Heard,Keep:=y.Keep })) fun x9 =>
 some (x9.Heard,x9.Under.Kind,x9.Under.Entry.Addr,x9.Under.Entry.Len,x9.Under.Entry.Cost,x9.Under.Entry.Label,x9.Told,x9.All)
else
 some (y.Heard,y.Under.Kind,y.Under.Entry.Addr,y.Under.Entry.Len,y.Under.Entry.Cost,y.Under.Entry.Label,y.Told,y.All))) fun x6 =>
 bd (α:=List Qxo × Int × Bool) ((if ((w.Change.Kind != 0) && (w.Num == (IntKind.i64.wrap (y.Got+1))))=true then
 bd (Z2 ({ y with PeerBoot:=y.PeerBoot,PeerTurn:=w.Turn,Up:=(w.Yours == y.Boot),Left:=4,Num:=y.Num,Under:=(⟨x6.2.1,(⟨x6.2.2.1,x6.2.2.2.1,x6.2.2.2.2.1,x6.2.2.2.2.2.1⟩:Qxm)⟩:Qxn),Told:=x6.2.2.2.2.2.2.1,All:=x6.2.2.2.2.2.2.2,Got:=y.Got,Full:=y.Full,Heard:=x6.1,Keep:=y.Keep }) w.Change) fun x14 =>
(if (((w.Change.Kind != 0) && (w.Num == (IntKind.i64.wrap (y.Got+1)))) && x14.1)=true then
 some (x14.2.Heard,w.Num,x14.2.Full)
else
 some (x14.2.Heard,y.Got,x14.2.Full))
else
(if (((w.Change.Kind != 0) && (w.Num == (IntKind.i64.wrap (y.Got+1)))) && false)=true then
 some (x6.1,w.Num,y.Full)
else
 some (x6.1,y.Got,y.Full)))) fun x10 =>
 bd (Z9 x10.1) fun x15 =>
(if (!x15)=true then
 some ({ y with PeerBoot:=y.PeerBoot,PeerTurn:=w.Turn,Up:=(w.Yours == y.Boot),Left:=4,Num:=y.Num,Under:=(⟨x6.2.1,(⟨x6.2.2.1,x6.2.2.2.1,x6.2.2.2.2.1,x6.2.2.2.2.2.1⟩:Qxm)⟩:Qxn),Told:=x6.2.2.2.2.2.2.1,All:=x6.2.2.2.2.2.2.2,Got:=x10.2.1,Full:=x10.2.2,Heard:=x10.1,Keep:=0 })
else
 some ({ y with PeerBoot:=y.PeerBoot,PeerTurn:=w.Turn,Up:=(w.Yours == y.Boot),Left:=4,Num:=y.Num,Under:=(⟨x6.2.1,(⟨x6.2.2.1,x6.2.2.2.1,x6.2.2.2.2.1,x6.2.2.2.2.2.1⟩:Qxm)⟩:Qxn),Told:=x6.2.2.2.2.2.2.1,All:=x6.2.2.2.2.2.2.2,Got:=x10.2.1,Full:=x10.2.2,Heard:=x10.1,Keep:=y.Keep })))
noncomputable def QsL (z:Qxp) (w:Qxr):Option Qxp :=
 bd (α:=List Qxo × Int × Bool) ((if ((w.Change.Kind != 0) && (w.Num == (IntKind.i64.wrap (z.Got+1))))=true then
 bd (Z2 ({ z with PeerBoot:=z.PeerBoot,PeerTurn:=z.PeerTurn,Up:=z.Up,Left:=z.Left,Num:=z.Num,Under:=(⟨z.Under.Kind,(⟨z.Under.Entry.Addr,z.Under.Entry.Len,z.Under.Entry.Cost,z.Under.Entry.Label⟩:Qxm)⟩:Qxn),Told:=z.Told,All:=z.All,Got:=z.Got,Full:=z.Full,Heard:=z.Heard,Keep:=z.Keep }) w.Change) fun x14 =>
(if (((w.Change.Kind != 0) && (w.Num == (IntKind.i64.wrap (z.Got+1)))) && x14.1)=true then
 some (x14.2.Heard,w.Num,x14.2.Full)
else
 some (x14.2.Heard,z.Got,x14.2.Full))
else
(if (((w.Change.Kind != 0) && (w.Num == (IntKind.i64.wrap (z.Got+1)))) && false)=true then
 some (z.Heard,w.Num,z.Full)
else
 some (z.Heard,z.Got,z.Full)))) fun x10 =>
 bd (Z9 x10.1) fun x15 =>
(if (!x15)=true then
 some ({ z with PeerBoot:=z.PeerBoot,PeerTurn:=z.PeerTurn,Up:=z.Up,Left:=z.Left,Num:=z.Num,Under:=(⟨z.Under.Kind,(⟨z.Under.Entry.Addr,z.Under.Entry.Len,z.Under.Entry.Cost,z.Under.Entry.Label⟩:Qxm)⟩:Qxn),Told:=z.Told,All:=z.All,Got:=x10.2.1,Full:=x10.2.2,Heard:=x10.1,Keep:=0 })
else
 some ({ z with PeerBoot:=z.PeerBoot,PeerTurn:=z.PeerTurn,Up:=z.Up,Left:=z.Left,Num:=z.Num,Under:=(⟨z.Under.Kind,(⟨z.Under.Entry.Addr,z.Under.Entry.Len,z.Under.Entry.Cost,z.Under.Entry.Label⟩:Qxm)⟩:Qxn),Told:=z.Told,All:=z.All,Got:=x10.2.1,Full:=x10.2.2,Heard:=x10.1,Keep:=z.Keep }))
theorem QsM {x:Qxp} (h:x.Heard.length≤1048576) (ho:Ord rE x.Heard) {e:Qxm} (he:0≤e.Len∧e.Len≤16∧0≤e.Addr∧e.Addr≤65535):J0 x e=some ((QpO x.Heard e).2,{ x with Heard:=(QpO x.Heard e).1 }):=by
  unfold J0 QpO;rw [Qbw,Qb,Qjs h ho he,Qb];dsimp only
  cases hh:Qbk rE x.Heard e
  · simp only [Bool.false_eq_true,if_false]
    by_cases c:x.Heard.length=16
    · rw [if_pos (by simp <;> omega),if_pos c,Qsm h,Qb]
      cases hf:JR x.Heard with
      | none=>rfl
      | some s =>
        have hs:=(ZK hf).1;have hl:=QmC hs;dsimp only;rw [if_neg (by simp <;> omega),Qsk h hs,Qb,Qb];dsimp only;rw [Qb,Qjs (x:={ x with Heard:=QoH x.Heard s }) (by dsimp only; omega) (QoG ho (Qd0 _ _)) he,Qb];dsimp only;rw [Qsl (by omega),Qb]
    · rw [if_neg (by simp <;> omega),if_neg c,Qb];dsimp only;rw [Qb,Qjs (x:={ x with Heard:=x.Heard }) (by exact h) ho he,Qb];dsimp only;rw [Qsl (by omega),Qb]
  · have:=(J8.1 hh).1;rw [if_pos rfl,if_pos rfl,Qp (by omega),Int.toNat_natCast]
theorem Qt2 {x:Qxp} (h:x.Heard.length≤1048576) (ho:Ord rE x.Heard) {c:Qxn} (hc:QV c=true) (h0:c.Kind ≠ 0):Z2 x c=some ((Qcm x.Heard c).2,{ x with Heard:=(Qcm x.Heard c).1,Full:=x.Full || (c.Kind == 3) }):=by
  have hk:c.Kind=3 ∨ c.Kind=1 ∨ c.Kind=2:=by
    unfold QV at hc;split at hc
    · omega
    · split at hc
      · omega
      · split at hc
        · omega
        · cases hc
  unfold Z2 Qcm;rw [QsM h ho (Qgm hc),Qb,Qbw,Qb,Qjs h ho (Qgm hc),Qb];dsimp only;rcases hk with k | k | k
  · simp only [k,show ((3:Int) == 1)=false from rfl,show ((3:Int) == 2)=false from rfl,show ((3:Int) == 3)=true from rfl,Bool.false_eq_true,if_false,if_true,show ¬ ((3:Int)=1) from by decide,show ¬ ((3:Int)=2) from by decide,Bool.or_true];unfold Q3;rw [QoC h,Qb,Qb]
  · simp only [k,show ((1:Int) == 1)=true from rfl,show ((1:Int) == 3)=false from rfl,if_true,Bool.or_false]
  · simp only [k,show ((2:Int) == 1)=false from rfl,show ((2:Int) == 2)=true from rfl,show ((2:Int) == 3)=false from rfl,Bool.false_eq_true,if_false,if_true,show ¬ ((2:Int)=1) from by decide,Bool.or_false]
    cases hh:Qbk rE x.Heard c.Entry
    · rfl
    · rw [if_pos rfl,if_pos rfl,Qsk h (J8.1 hh).1,Qb]
theorem Qrd {e:Qxp} (h:Hr e):Zf e=some (Qeq e):=by
  have:=h.tl;unfold Zf Qeq;rw [Qiz (by omega) h.told h.under]
  by_cases c:e.Under.Kind=3
  · rw [if_pos (by simpa using c),if_pos c,Qb,Qb]
  · rw [if_neg (by simpa using c),if_neg c,Qb,Qb]
theorem QnO {z:Qxp} {w:Qxr} (h1:Ord rE z.Heard) (h2:z.Heard.length≤16) (h3:0≤z.Got∧z.Got≤1000000) (hc:QV w.Change=true):QsL z w=some (kept (JS z w)):=by
  have tl:=Qjt h2 w.Change;unfold QsL JS;rw [wrap_i64 (by omega) (by omega)]
  by_cases c:w.Change.Kind ≠ 0∧w.Num=z.Got+1
  · have hb:((w.Change.Kind != 0) && (w.Num == z.Got+1))=true:=by simpa using c
    rw [hb,if_pos rfl,if_pos c,Qt2 (by exact Nat.le_trans h2 (by decide)) (by exact h1) hc c.1,Qb];dsimp only;rw [Bool.true_and]
    cases ht:(Qcm z.Heard w.Change).2
    · obtain ⟨e1,e2⟩:=Qvx ht;rw [if_neg (by decide),if_neg (by decide),Qb];dsimp only;rw [e1,Qfx (by omega),Qb,e2,show ((1:Int) == 3)=false from rfl,Bool.or_false];unfold kept
      cases Z8 z.Heard <;> rfl
    · rw [if_pos rfl,if_pos rfl,Qb];dsimp only;rw [Qfx (by omega),Qb];unfold kept;dsimp only
      cases Z8 (Qcm z.Heard w.Change).1 <;> rfl
  · have hb:((w.Change.Kind != 0) && (w.Num == z.Got+1))=false:=by
      rw [Bool.eq_false_iff];intro q;exact c (by simpa using q)
    rw [hb,if_neg (by decide),if_neg c,Bool.false_and,if_neg (by decide),Qb];dsimp only;rw [Qfx (by omega),Qb];unfold kept
    cases Z8 z.Heard <;> rfl
theorem QpW {y:Qxp} {w:Qxr} (h:Hr y) (hc:QV w.Change=true):QuH y w=some (listenY y w):=by
  have hu:=Qsn h w;unfold QuH listenY
  by_cases c:w.Yours=y.Boot
  · rw [if_neg (by simpa using c),if_pos c];rw [show JH (QfO y w) w=if y.Under.Kind ≠ 0∧w.Heard=y.Num then Qeq (QfO y w) else QfO y w from rfl]
    by_cases c2:y.Under.Kind ≠ 0∧w.Heard=y.Num
    · rw [if_pos (by simpa using c2),if_pos c2];refine (congrArg (fun m=>bd (bd m _) _) (Qrd hu)).trans ?_;rw [Qb,Qb];exact QnO (z:=Qeq (QfO y w)) h.heard h.hl h.got hc
    · rw [if_neg (by simpa using c2),if_neg c2,Qb];exact QnO (z:=QfO y w) h.heard h.hl h.got hc
  · rw [if_pos (by simpa using c),if_neg c]
    rfl
theorem QsN {e:Qxp} {w:Qxr} (hk:e.Keys.length≤1048576) (h:Hr e):Z3 e w=some (if QcB e w=true then listenY (JB e w) w else e):=by
  have hb:=Qh6 h w;have hl:=h.hl;unfold Z3;rw [QwA hk,Qb]
  cases hn:QcB e w
  · rfl
  · have hc:=Qkt hn;rw [if_neg (by decide),if_pos rfl];unfold JB at hb ⊢
    by_cases c:w.Boot > e.PeerBoot
    · rw [if_pos c] at hb;rw [if_pos (by simpa using c),if_pos c,QpV (by omega),Qb,Qb];exact QpW hb hc
    · rw [if_neg c] at hb;rw [if_neg (by simpa using c),if_neg c,Qb];exact QpW hb hc
end Go.Proofs.YtjgjdobkahdgfaaGreat
