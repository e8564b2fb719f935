/-
  Plain Lean: an end that hears a word, over the program's first contracts.
-/
import Derived.Test.YtjgjdobkahdgfaaGreatKz6
import Derived.Test.YtjgjdobkahdgfaaGreatHelTbz
set_option linter.all false
namespace Go.Proofs.YtjgjdobkahdgfaaGreat
open Go Go.Ab
set_option maxHeartbeats 2000000
set_option maxRecDepth 100000
noncomputable def QtB (y:Qv5) (w:Qv7):Option Qv5 :=
(if (!(w.Yours == y.Boot))=true then
 some ({ y with PeerBoot:=y.PeerBoot,PeerTurn:=w.Turn,Up:=(w.Yours == y.Boot),Left:=4,Num:=y.Num,Under:=(⟨y.Under.Kind,(⟨y.Under.Entry.Addr,y.Under.Entry.Len,y.Under.Entry.Cost,y.Under.Entry.Label⟩:Qv2)⟩:Qv3),Told:=y.Told,All:=y.All,Got:=y.Got,Full:=y.Full,Heard:=y.Heard,Keep:=y.Keep })
else
 bd (α:=List Qv4 × Int × Int × Int × Int × Int × List Qv2 × Bool) ((if ((y.Under.Kind != 0) && (w.Heard == y.Num))=true then
 bd (Ze ({ y with PeerBoot:=y.PeerBoot,PeerTurn:=w.Turn,Up:=(w.Yours == y.Boot),Left:=4,Num:=y.Num,Under:=(⟨y.Under.Kind,(⟨y.Under.Entry.Addr,y.Under.Entry.Len,y.Under.Entry.Cost,y.Under.Entry.Label⟩:Qv2)⟩:Qv3),Told:=y.Told,All:=y.All,Got:=y.Got,Full:=y.Full,Heard:=y.Heard,Keep:=y.Keep })) fun x9 =>
 some (x9.Heard,x9.Under.Kind,x9.Under.Entry.Addr,x9.Under.Entry.Len,x9.Under.Entry.Cost,x9.Under.Entry.Label,x9.Told,x9.All)
else
 some (y.Heard,y.Under.Kind,y.Under.Entry.Addr,y.Under.Entry.Len,y.Under.Entry.Cost,y.Under.Entry.Label,y.Told,y.All))) fun x6 =>
 bd (α:=List Qv4 × Int × Bool) ((if ((w.Change.Kind != 0) && (w.Num == (IntKind.i64.wrap (y.Got+1))))=true then
 bd (ZZ ({ y with PeerBoot:=y.PeerBoot,PeerTurn:=w.Turn,Up:=(w.Yours == y.Boot),Left:=4,Num:=y.Num,Under:=(⟨x6.2.1,(⟨x6.2.2.1,x6.2.2.2.1,x6.2.2.2.2.1,x6.2.2.2.2.2.1⟩:Qv2)⟩:Qv3),Told:=x6.2.2.2.2.2.2.1,All:=x6.2.2.2.2.2.2.2,Got:=y.Got,Full:=y.Full,Heard:=x6.1,Keep:=y.Keep }) w.Change) fun x14 =>
(if (((w.Change.Kind != 0) && (w.Num == (IntKind.i64.wrap (y.Got+1)))) && x14.1)=true then
 some (x14.2.Heard,w.Num,x14.2.Full)
else
 some (x14.2.Heard,y.Got,x14.2.Full))
else
(if (((w.Change.Kind != 0) && (w.Num == (IntKind.i64.wrap (y.Got+1)))) && false)=true then
 some (x6.1,w.Num,y.Full)
else
 some (x6.1,y.Got,y.Full)))) fun x10 =>
 bd (JQ x10.1) fun x15 =>
(if (!x15)=true then
 some ({ y with PeerBoot:=y.PeerBoot,PeerTurn:=w.Turn,Up:=(w.Yours == y.Boot),Left:=4,Num:=y.Num,Under:=(⟨x6.2.1,(⟨x6.2.2.1,x6.2.2.2.1,x6.2.2.2.2.1,x6.2.2.2.2.2.1⟩:Qv2)⟩:Qv3),Told:=x6.2.2.2.2.2.2.1,All:=x6.2.2.2.2.2.2.2,Got:=x10.2.1,Full:=x10.2.2,Heard:=x10.1,Keep:=0 })
else
 some ({ y with PeerBoot:=y.PeerBoot,PeerTurn:=w.Turn,Up:=(w.Yours == y.Boot),Left:=4,Num:=y.Num,Under:=(⟨x6.2.1,(⟨x6.2.2.1,x6.2.2.2.1,x6.2.2.2.2.1,x6.2.2.2.2.2.1⟩:Qv2)⟩:Qv3),Told:=x6.2.2.2.2.2.2.1,All:=x6.2.2.2.2.2.2.2,Got:=x10.2.1,Full:=x10.2.2,Heard:=x10.1,Keep:=y.Keep })))
noncomputable def QrY (z:Qv5) (w:Qv7):Option Qv5 :=
 bd (α:=List Qv4 × Int × Bool) ((if ((w.Change.Kind != 0) && (w.Num == (IntKind.i64.wrap (z.Got+1))))=true then
 bd (ZZ ({ z with PeerBoot:=z.PeerBoot,PeerTurn:=z.PeerTurn,Up:=z.Up,Left:=z.Left,Num:=z.Num,Under:=(⟨z.Under.Kind,(⟨z.Under.Entry.Addr,z.Under.Entry.Len,z.Under.Entry.Cost,z.Under.Entry.Label⟩:Qv2)⟩:Qv3),Told:=z.Told,All:=z.All,Got:=z.Got,Full:=z.Full,Heard:=z.Heard,Keep:=z.Keep }) w.Change) fun x14 =>
(if (((w.Change.Kind != 0) && (w.Num == (IntKind.i64.wrap (z.Got+1)))) && x14.1)=true then
 some (x14.2.Heard,w.Num,x14.2.Full)
else
 some (x14.2.Heard,z.Got,x14.2.Full))
else
(if (((w.Change.Kind != 0) && (w.Num == (IntKind.i64.wrap (z.Got+1)))) && false)=true then
 some (z.Heard,w.Num,z.Full)
else
 some (z.Heard,z.Got,z.Full)))) fun x10 =>
 bd (JQ x10.1) fun x15 =>
(if (!x15)=true then
 some ({ z with PeerBoot:=z.PeerBoot,PeerTurn:=z.PeerTurn,Up:=z.Up,Left:=z.Left,Num:=z.Num,Under:=(⟨z.Under.Kind,(⟨z.Under.Entry.Addr,z.Under.Entry.Len,z.Under.Entry.Cost,z.Under.Entry.Label⟩:Qv2)⟩:Qv3),Told:=z.Told,All:=z.All,Got:=x10.2.1,Full:=x10.2.2,Heard:=x10.1,Keep:=0 })
else
 some ({ z with PeerBoot:=z.PeerBoot,PeerTurn:=z.PeerTurn,Up:=z.Up,Left:=z.Left,Num:=z.Num,Under:=(⟨z.Under.Kind,(⟨z.Under.Entry.Addr,z.Under.Entry.Len,z.Under.Entry.Cost,z.Under.Entry.Label⟩:Qv2)⟩:Qv3),Told:=z.Told,All:=z.All,Got:=x10.2.1,Full:=x10.2.2,Heard:=x10.1,Keep:=z.Keep }))
theorem QrZ {x:Qv5} (h:x.Heard.length≤1048576) (ho:Ord rE x.Heard) {e:Qv2} (he:0≤e.Len∧e.Len≤16∧0≤e.Addr∧e.Addr≤65535):JT x e=some ((Qqw x.Heard e).2,{ x with Heard:=(Qqw x.Heard e).1 }):=by
  unfold JT Qqw;rw [Qbi,Qb,Qje h ho he,Qb];dsimp only
  cases hh:Qdp rE x.Heard e
  · simp only [Bool.false_eq_true,if_false]
    by_cases c:x.Heard.length=16
    · rw [if_pos (by simp <;> omega),if_pos c,QrB h,Qb]
      cases hf:Qak x.Heard with
      | none=>rfl
      | some s =>
        have hs:=(Z9 hf).1;have hl:=Qmo hs;dsimp only;rw [if_neg (by simp <;> omega),Qrz h hs,Qb,Qb];dsimp only;rw [Qb,Qje (x:={ x with Heard:=Qqf x.Heard s }) (by dsimp only; omega) (Qry ho (Qek _ _)) he,Qb];dsimp only;rw [QrA (by omega),Qb]
    · rw [if_neg (by simp <;> omega),if_neg c,Qb];dsimp only;rw [Qb,Qje (x:={ x with Heard:=x.Heard }) (by exact h) ho he,Qb];dsimp only;rw [QrA (by omega),Qb]
  · have:=(QaR.1 hh).1;rw [if_pos rfl,if_pos rfl,Qn (by omega),Int.toNat_natCast]
theorem Qs1 {x:Qv5} (h:x.Heard.length≤1048576) (ho:Ord rE x.Heard) {c:Qv3} (hc:Zc c=true) (h0:c.Kind ≠ 0):ZZ x c=some ((Qft x.Heard c).2,{ x with Heard:=(Qft x.Heard c).1,Full:=x.Full || (c.Kind == 3) }):=by
  have hk:c.Kind=3 ∨ c.Kind=1 ∨ c.Kind=2:=by
    unfold Zc at hc;split at hc
    · omega
    · split at hc
      · omega
      · split at hc
        · omega
        · cases hc
  unfold ZZ Qft;rw [QrZ h ho (Qf3 hc),Qb,Qbi,Qb,Qje h ho (Qf3 hc),Qb];dsimp only;rcases hk with k | k | k
  · simp only [k,show ((3:Int) == 1)=false from rfl,show ((3:Int) == 2)=false from rfl,show ((3:Int) == 3)=true from rfl,Bool.false_eq_true,if_false,if_true,show ¬ ((3:Int)=1) from by decide,show ¬ ((3:Int)=2) from by decide,Bool.or_true];unfold Q2;rw [Qrv h,Qb,Qb]
  · simp only [k,show ((1:Int) == 1)=true from rfl,show ((1:Int) == 3)=false from rfl,if_true,Bool.or_false]
  · simp only [k,show ((2:Int) == 1)=false from rfl,show ((2:Int) == 2)=true from rfl,show ((2:Int) == 3)=false from rfl,Bool.false_eq_true,if_false,if_true,show ¬ ((2:Int)=1) from by decide,Bool.or_false]
    cases hh:Qdp rE x.Heard c.Entry
    · rfl
    · rw [if_pos rfl,if_pos rfl,Qrz h (QaR.1 hh).1,Qb]
theorem Qqq {e:Qv5} (h:Hr e):Ze e=some (Qeu e):=by
  have:=h.tl;unfold Ze Qeu;rw [Qln (by omega) h.told h.under]
  by_cases c:e.Under.Kind=3
  · rw [if_pos (by simpa using c),if_pos c,Qb,Qb]
  · rw [if_neg (by simpa using c),if_neg c,Qb,Qb]
theorem Qnv {z:Qv5} {w:Qv7} (h1:Ord rE z.Heard) (h2:z.Heard.length≤16) (h3:0≤z.Got∧z.Got≤1000000) (hc:Zc w.Change=true):QrY z w=some (kept (QcR z w)):=by
  have tl:=Qjg h2 w.Change;unfold QrY QcR;rw [wrap_i64 (by omega) (by omega)]
  by_cases c:w.Change.Kind ≠ 0∧w.Num=z.Got+1
  · have hb:((w.Change.Kind != 0) && (w.Num == z.Got+1))=true:=by simpa using c
    rw [hb,if_pos rfl,if_pos c,Qs1 (by exact Nat.le_trans h2 (by decide)) (by exact h1) hc c.1,Qb];dsimp only;rw [Bool.true_and]
    cases ht:(Qft z.Heard w.Change).2
    · obtain ⟨e1,e2⟩:=Quo ht;rw [if_neg (by decide),if_neg (by decide),Qb];dsimp only;rw [e1,Qjd (by omega),Qb,e2,show ((1:Int) == 3)=false from rfl,Bool.or_false];unfold kept
      cases Qav z.Heard <;> rfl
    · rw [if_pos rfl,if_pos rfl,Qb];dsimp only;rw [Qjd (by omega),Qb];unfold kept;dsimp only
      cases Qav (Qft z.Heard w.Change).1 <;> rfl
  · have hb:((w.Change.Kind != 0) && (w.Num == z.Got+1))=false:=by
      rw [Bool.eq_false_iff];intro q;exact c (by simpa using q)
    rw [hb,if_neg (by decide),if_neg c,Bool.false_and,if_neg (by decide),Qb];dsimp only;rw [Qjd (by omega),Qb];unfold kept
    cases Qav z.Heard <;> rfl
theorem Qpm {y:Qv5} {w:Qv7} (h:Hr y) (hc:Zc w.Change=true):QtB y w=some (Qa9 y w):=by
  have hu:=QrC h w;unfold QtB Qa9
  by_cases c:w.Yours=y.Boot
  · rw [if_neg (by simpa using c),if_pos c];rw [show QcQ (Qis y w) w=if y.Under.Kind ≠ 0∧w.Heard=y.Num then Qeu (Qis y w) else Qis y w from rfl]
    by_cases c2:y.Under.Kind ≠ 0∧w.Heard=y.Num
    · rw [if_pos (by simpa using c2),if_pos c2];refine (congrArg (fun m=>bd (bd m _) _) (Qqq hu)).trans ?_;rw [Qb,Qb];exact Qnv (z:=Qeu (Qis y w)) h.heard h.hl h.got hc
    · rw [if_neg (by simpa using c2),if_neg c2,Qb];exact Qnv (z:=Qis y w) h.heard h.hl h.got hc
  · rw [if_pos (by simpa using c),if_neg c]
    rfl
theorem Qr0 {e:Qv5} {w:Qv7} (hk:e.Keys.length≤1048576) (h:Hr e):Z0 e w=some (if Qel e w=true then Qa9 (Qet e w) w else e):=by
  have hb:=Qjf h w;have hl:=h.hl;unfold Z0;rw [Qvd hk,Qb]
  cases hn:Qel e w
  · rfl
  · have hc:=Qkf hn;rw [if_neg (by decide),if_pos rfl];unfold Qet at hb ⊢
    by_cases c:w.Boot > e.PeerBoot
    · rw [if_pos c] at hb;rw [if_pos (by simpa using c),if_pos c,Qpl (by omega),Qb,Qb];exact Qpm hb hc
    · rw [if_neg c] at hb;rw [if_neg (by simpa using c),if_neg c,Qb];exact Qpm hb hc
end Go.Proofs.YtjgjdobkahdgfaaGreat
