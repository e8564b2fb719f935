/-
  Plain Lean: steps and rounds of the reference's worlds.
-/
import Derived.Test.YtjgjdobkahdgfaaGreatKz5
import Derived.Test.YtjgjdobkahdgfaaGreatHelDz
set_option linter.all false
namespace Go.Proofs.YtjgjdobkahdgfaaGreat
open Go Go.Ab
set_option maxHeartbeats 1000000
set_option maxRecDepth 100000
theorem Qkz {e:Qxp} (h:Eo e):Qh3 e=Qcl e∧(Qcl e).Name=e.Name∧(Qcl e).Peer=e.Peer:=by
  refine ⟨by unfold Qh3; rw [if_pos (JI.2 h)],?_⟩;have k:(keepTick e).Name=e.Name∧(keepTick e).Peer=e.Peer:=by
    unfold keepTick;split <;> exact ⟨rfl,rfl⟩
  unfold Qcl Qc5;generalize keepTick e=x at *;split
  · split <;> exact k
  · exact k
def Qrb (e:Qxp):Qxp:={ e with Turn:=0,PeerBoot:=0,PeerTurn:=0,Up:=false,Left:=0,Num:=0,Under:=⟨0,⟨0,0,0,0⟩⟩,Told:=[],All:=false,Got:=0,Full:=false,Heard:=[],Keep:=0 }
theorem QmI {e:Qxp} (h:Eo e):Eo (Qrb e) :=
  ⟨h.name,h.peer,h.ne,h.keys,h.boot,(by show (0:Int)≤0∧(0:Int)≤1000000; decide),(by show (0:Int)≤0∧(0:Int)≤1000000; decide),(by show (0:Int)≤0∧(0:Int)≤1000000; decide),(by show (0:Int)≤0∧(0:Int)≤999; decide),⟨fun _=>rfl,fun _=>rfl⟩,(by show (0:Int)≤0∧(0:Int)≤4; decide),fun _=>rfl,fun q=>(by cases q),(by show (0:Int)≤0∧(0:Int)≤0; decide),rfl,fun _=>rfl,h.want,Qku,Qku,QlL _⟩
theorem QsF {e:Qxp} (h:Eo e) (hh:e.Heard=[]):JK e=some (ZM e):=by
  have hk:e.Keep=0:=by
    have:=h.heard.any;have k:=h.heard.keep;rw [hh] at this;have:¬ 0 < e.Keep:=fun q=>by
      have:=this.1 q
      cases this
    omega
  have hb:=h.boot;have stale:∀ x:Qxp,x.Heard=[]→Qac x=some x:=fun x hx=>by
    unfold Qac;rw [hx];have:lp (σ:=Unit) (β:=(Unit)) (fun s1 =>
        (if (decide ((0:Int) < ((([]:List Qxo).length:Nat):Int)))=true then
        none
        else
        some (.inr ()))) ()=some ():=QdM (by rw [if_neg (by simp)])
    rw [this,Qb,if_neg (by simp)]
  have an:∀ x:Qxp,x.Heard=[]→x.Keep=0→JJ x=some (Qq6 x):=fun x hx hk=>by
    unfold JJ Qq6;rw [stale _ (by exact hx),Qb,hx,hk]
    rfl
  unfold JK ZM
  by_cases c:e.Boot < 1000
  · rw [if_pos (by simpa using c),if_pos c,an _ (by exact hh) (by exact hk),Qb,wrap_i64 (by omega) (by omega)]
  · rw [if_neg (by simpa using c),if_neg c,an _ (by exact hh) (by exact hk),Qb]
end Go.Proofs.YtjgjdobkahdgfaaGreat
