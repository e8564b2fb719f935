/-
  Plain Lean: steps and rounds of the reference's worlds.
-/
import Derived.Test.YtjgjdobkahdgfaaGreatKz5
import Derived.Test.YtjgjdobkahdgfaaGreatHelDz
set_option linter.all false
namespace Go.Proofs.YtjgjdobkahdgfaaGreat
open Go Go.Ab
set_option maxHeartbeats 1000000
set_option maxRecDepth 100000
theorem Qkn {e:Qxb} (h:Eo e):QhU e=Qce e∧(Qce e).Name=e.Name∧(Qce e).Peer=e.Peer:=by
  refine ⟨by unfold QhU; rw [if_pos (Jw.2 h)],?_⟩;have k:(keepTick e).Name=e.Name∧(keepTick e).Peer=e.Peer:=by
    unfold keepTick;split <;> exact ⟨rfl,rfl⟩
  unfold Qce QcT;generalize keepTick e=x at *;split
  · split <;> exact k
  · exact k
def QqV (e:Qxb):Qxb:={ e with Turn:=0,PeerBoot:=0,PeerTurn:=0,Up:=false,Left:=0,Num:=0,Under:=⟨0,⟨0,0,0,0⟩⟩,Told:=[],All:=false,Got:=0,Full:=false,Heard:=[],Keep:=0 }
theorem Qmt {e:Qxb} (h:Eo e):Eo (QqV e) :=
  ⟨h.name,h.peer,h.ne,h.keys,h.boot,(by show (0:Int)≤0∧(0:Int)≤1000000; decide),(by show (0:Int)≤0∧(0:Int)≤1000000; decide),(by show (0:Int)≤0∧(0:Int)≤1000000; decide),(by show (0:Int)≤0∧(0:Int)≤999; decide),⟨fun _=>rfl,fun _=>rfl⟩,(by show (0:Int)≤0∧(0:Int)≤4; decide),fun _=>rfl,fun q=>(by cases q),(by show (0:Int)≤0∧(0:Int)≤0; decide),rfl,fun _=>rfl,h.want,Qki,Qki,Qly _⟩
theorem Qsr {e:Qxb} (h:Eo e) (hh:e.Heard=[]):JG e=some (ZH e):=by
  have hk:e.Keep=0:=by
    have:=h.heard.any;have k:=h.heard.keep;rw [hh] at this;have:¬ 0 < e.Keep:=fun q=>by
      have:=this.1 q
      cases this
    omega
  have hb:=h.boot;have stale:∀ x:Qxb,x.Heard=[]→J9 x=some x:=fun x hx=>by
    unfold J9;rw [hx];have:lp (σ:=Unit) (β:=(Unit)) (fun s1 =>
        (if (decide ((0:Int) < ((([]:List Qxa).length:Nat):Int)))=true then
        none
        else
        some (.inr ()))) ()=some ():=QdC (by rw [if_neg (by simp)])
    rw [this,Qb,if_neg (by simp)]
  have an:∀ x:Qxb,x.Heard=[]→x.Keep=0→JF x=some (QqQ x):=fun x hx hk=>by
    unfold JF QqQ;rw [stale _ (by exact hx),Qb,hx,hk]
    rfl
  unfold JG ZH
  by_cases c:e.Boot < 1000
  · rw [if_pos (by simpa using c),if_pos c,an _ (by exact hh) (by exact hk),Qb,wrap_i64 (by omega) (by omega)]
  · rw [if_neg (by simpa using c),if_neg c,an _ (by exact hh) (by exact hk),Qb]
end Go.Proofs.YtjgjdobkahdgfaaGreat
