/-
  Plain Lean: an end that hears nothing forgets; the row FnHelloForget.
-/
import Derived.Test.YtaoeomoepefojaaGreatKz5
import Derived.Test.YtaoeomoepefojaaGreatHelTbz
import Derived.Test.YtaoeomoepefojaaGreatHelIz
import Derived.Test.YtaoeomoepefojaaGreatArgz
set_option linter.all false
namespace Go.Proofs.YtaoeomoepefojaaGreat
open Go Go.Ab
set_option maxHeartbeats 4000000
set_option maxRecDepth 100000
def most (e:HelloEnd):Nat := if e.Left > 0 then (e.Left + 6).toNat else e.Keep.toNat
theorem most_le {e:HelloEnd} (h:Eo e):most e ≤ 10 := by
  have := h.left;have := h.heard.keep;unfold most;split <;> omega
theorem most_zero {e:HelloEnd} (h:Eo e) (hm:most e = 0):e.Up = false ∧ e.Heard = [] := by
  have hl := h.left;have hk := h.heard.keep;unfold most at hm;have e1:e.Left = 0 ∧ e.Keep = 0 := by
    split at hm <;> omega
  refine ⟨?_,?_⟩
  · cases hu:e.Up
    · rfl
    · exact absurd e1.1 (h.up hu)
  · cases hh:e.Heard with
    | nil => rfl
    | cons r t =>
      exfalso;have hr:r ∈ e.Heard := by rw [hh]; exact List.mem_cons_self
      have := (h.heard.rt.live r hr).resolve_right fun q => q e1.1;have := h.heard.any.2 (staleAny_iff.2 ⟨r,hr,this⟩);omega
theorem keep_facts {e:HelloEnd} (h:Eo e):(keepTick e).Left = e.Left ∧ (keepTick e).Keep = (if e.Keep > 0 then e.Keep - 1 else 0) ∧ (e.Keep ≠ 1 → (keepTick e).Heard = e.Heard) := by
  have hk := h.heard.keep;unfold keepTick
  by_cases c:e.Keep > 0
  · rw [if_pos c,if_pos c];refine ⟨rfl,rfl,fun q => ?_⟩;dsimp only;rw [if_neg (by omega)]
  · rw [if_neg c,if_neg c];exact ⟨rfl,by omega,fun _ => rfl⟩
theorem tick_facts {e:HelloEnd} (h:Eo e):most (tickE e) ≤ most e - 1 ∧ (e.Keep ≠ 1 → (tickE e).Heard.map (fun r => r.Entry) = e.Heard.map (fun r => r.Entry)) ∧ (e.Keep = 0 → (tickE e).Keep = 0 ∨ (tickE e).Keep = 6) ∧ (2 ≤ e.Keep → (tickE e).Keep = e.Keep - 1) := by
  obtain ⟨k1,k2,k3⟩ := keep_facts h;have hk := h.heard.keep;have hl := h.left;have st:∀ t:List HelloRoute,(stales t).map (fun r => r.Entry) = t.map (fun r => r.Entry) := fun t => by simp [stales]
  unfold tickE leftTick most;generalize keepTick e = x at *;rw [k1]
  by_cases c:e.Left > 0
  · rw [if_pos c]
    by_cases c2:e.Left - 1 = 0
    · rw [if_pos c2];have e1:(lifeNext { x with Left := e.Left - 1 }).Left = 0 := rfl;have e2:(lifeNext { x with Left := e.Left - 1 }).Heard = stales x.Heard := rfl;have e3:(lifeNext { x with Left := e.Left - 1 }).Keep = if x.Heard.length > 0 ∧ x.Keep = 0 then 6 else x.Keep := rfl;rw [e1,e2,e3,if_pos c,if_neg (by decide),st];refine ⟨?_,fun q => by rw [k3 q],fun q => ?_,fun q => ?_⟩
      · split
        · omega
        · rw [k2]; split <;> omega
      · split
        · exact .inr rfl
        · rw [k2,q]; exact .inl rfl
      · rw [if_neg (by rw [k2,if_pos (by omega)]; omega),k2,if_pos (by omega)]
    · rw [if_neg c2];dsimp only;rw [if_pos (by omega),if_pos c];refine ⟨by omega,fun q => by rw [k3 q],fun q => ?_,fun q => ?_⟩
      · rw [k2,q]; exact .inl rfl
      · rw [k2,if_pos (by omega)]
  · rw [if_neg c,k1,if_neg c,if_neg c];refine ⟨?_,fun q => by rw [k3 q],fun q => ?_,fun q => ?_⟩
    · rw [k2]; split <;> omega
    · rw [k2,q]; exact .inl rfl
    · rw [k2,if_pos (by omega)]
def itT:Nat → HelloEnd → HelloEnd
  | 0,e => e
  | n + 1,e => helloTick (itT n e)
theorem it_ok {e:HelloEnd} (h:Eo e):∀ n,Eo (itT n e) ∧ most (itT n e) ≤ 10 - n ∧ (e.Keep = 0 → n ≤ 4 → ((itT n e).Keep = 0 ∨ 7 ≤ (itT n e).Keep + n) ∧ (itT n e).Heard.map (fun r => r.Entry) = e.Heard.map (fun r => r.Entry))
  | 0 => ⟨h,most_le h,fun q _ => ⟨.inl q,rfl⟩⟩
  | n + 1 => by
    obtain ⟨i1,i2,i3⟩ := it_ok h n;obtain ⟨t1,t2,t3,t4⟩ := tick_facts i1;have e1:itT (n + 1) e = tickE (itT n e) := (tick_same i1).1;rw [e1];refine ⟨tick_eo i1,by omega,fun q hn => ?_⟩;obtain ⟨j1,j2⟩ := i3 q (by omega);have hne:(itT n e).Keep ≠ 1 := by omega
    refine ⟨?_,by rw [t2 hne,j2]⟩;rcases j1 with j | j
    · rcases t3 j with k | k
      · exact .inl k
      · refine .inr ?_; rw [k]; omega
    · have := t4 (by omega);refine .inr ?_; rw [this]; omega
theorem no_end:endOk noEnd = false := by rfl
theorem it_bad {e:HelloEnd} (h:endOk e = false):∀ n,itT (n + 1) e = noEnd
  | 0 => by
    show helloTick e = noEnd;unfold helloTick;rw [h]; rfl
  | n + 1 => by
    show helloTick (itT (n + 1) e) = noEnd;rw [it_bad h n];unfold helloTick;rw [no_end]; rfl
theorem lens_no:Lens noEnd 40 := ⟨Nat.zero_le _,Nat.zero_le _,Nat.zero_le _,Nat.zero_le _⟩
theorem it_lens {e:HelloEnd} (h:Lens e 40) (n:Nat):Lens (itT n e) 40 := by
  cases n with
  | zero => exact h
  | succ n =>
    cases hok:endOk e
    · rw [it_bad hok]; exact lens_no
    · exact (eo_lens (it_ok (endOk_iff.1 hok) (n + 1)).1).mono (by decide)
theorem it_use {e:HelloEnd} (hk:e.Keep = 0) {n:Nat} (hn:n ≤ 4):useE (itT n e) = useE e := by
  cases hok:endOk e
  · cases n with
    | zero => rfl
    | succ n =>
      rw [it_bad hok];unfold useE;rw [no_end,hok]; rfl
  · obtain ⟨i1,_,i3⟩ := it_ok (endOk_iff.1 hok) n;unfold useE;rw [if_pos hok,if_pos (endOk_iff.2 i1)];exact (i3 hk hn).2
theorem it_end (e:HelloEnd):useE (itT 10 e) = [] ∧ (itT 10 e).Up = false ∧ (itT 10 e).Heard = [] := by
  cases hok:endOk e
  · rw [it_bad hok 9];refine ⟨?_,rfl,rfl⟩;unfold useE;rw [no_end]; rfl
  · obtain ⟨i1,i2,_⟩ := it_ok (endOk_iff.1 hok) 10;obtain ⟨m1,m2⟩ := most_zero i1 (by omega);refine ⟨?_,m1,m2⟩;unfold useE;rw [m2];split <;> rfl
def tupF (x:HelloEnd) (i:Int):Int × Int × Int × Int × Int × Int × Int × Int × List HelloEntry × Bool × Int × Bool × List HelloKey × List HelloRoute × Int × Int × List HelloEntry × Int × Int × Int × Bool × Int × Int :=
  (x.Name,x.Peer,x.Num,x.Under.Kind,x.Under.Entry.Addr,x.Under.Entry.Len,x.Under.Entry.Cost,x.Under.Entry.Label,x.Told,x.All,x.Got,x.Full,x.Keys,x.Heard,x.Keep,x.Boot,x.Want,x.Turn,x.PeerBoot,x.PeerTurn,x.Up,x.Left,i)
theorem fnHelloForget_p {a0:List Int} (h:a0.length ≤ 9223372036854775807 ∧ ∀ x ∈ a0,FitsB x):laws_FnHelloForget_m a0 = some true := by
  have key:Post (laws_FnHelloForget_m a0) fun x => x = true := by
    unfold laws_FnHelloForget_m;refine .ite (fun _ => .ret rfl) fun _ => .bd (drawTick_post h.1 h.2) fun e L0 => ?_;have L := L0.mono (m := 1048576) (by decide);rw [iUse_p L,bd_val];have ul:(useE e).length ≤ 1048576 := by
      unfold useE;split
      · simpa using L.h
      · exact Nat.zero_le _
    refine .bd (Q := fun r => match r with
      | .inl _ => False
      | .inr d15 => (⟨d15.1,d15.2.1,d15.2.2.1,d15.2.2.2.1,d15.2.2.2.2.1,d15.2.2.2.2.2.1,d15.2.2.2.2.2.2.1,d15.2.2.2.2.2.2.2.1,d15.2.2.2.2.2.2.2.2.1,d15.2.2.2.2.2.2.2.2.2.1,d15.2.2.2.2.2.2.2.2.2.2.1,(⟨d15.2.2.2.2.2.2.2.2.2.2.2.1,(⟨d15.2.2.2.2.2.2.2.2.2.2.2.2.1,d15.2.2.2.2.2.2.2.2.2.2.2.2.2.1,d15.2.2.2.2.2.2.2.2.2.2.2.2.2.2.1,d15.2.2.2.2.2.2.2.2.2.2.2.2.2.2.2.1⟩:HelloEntry)⟩:HelloChange),d15.2.2.2.2.2.2.2.2.2.2.2.2.2.2.2.2.1,d15.2.2.2.2.2.2.2.2.2.2.2.2.2.2.2.2.2.1,d15.2.2.2.2.2.2.2.2.2.2.2.2.2.2.2.2.2.2.1,d15.2.2.2.2.2.2.2.2.2.2.2.2.2.2.2.2.2.2.2.1,d15.2.2.2.2.2.2.2.2.2.2.2.2.2.2.2.2.2.2.2.2.1,d15.2.2.2.2.2.2.2.2.2.2.2.2.2.2.2.2.2.2.2.2.2⟩:HelloEnd) = itT 10 e) (.lp (fun s => ∃ i:Nat,i ≤ 10 ∧ s = tupF (itT i e) (i:Int)) (fun s => (10 - s.2.2.2.2.2.2.2.2.2.2.2.2.2.2.2.2.2.2.2.2.2.2).toNat) ⟨0,by decide,rfl⟩ fun s ⟨i,hi,hs⟩ => ?_) fun r hr => ?_
    · subst hs;have Li := (it_lens L0 i).mono (m := 1048576) (by decide);have Lj := (it_lens L0 (i + 1)).mono (m := 1048576) (by decide);have e10:(tupF (itT i e) (i:Int)).2.2.2.2.2.2.2.2.2.2.2.2.2.2.2.2.2.2.2.2.2.2 = (i:Int) := rfl;rw [e10];refine .ite (fun c => ?_) fun c => .ret ?_
      · have c:(i:Int) < 10 := by simpa using c
        refine .bd (Q := fun y => y = itT (i + 1) e) ⟨_,iTickb_p Li,rfl⟩ fun x7 h7 => .bd (Q := fun y => y = itT (i + 1) e) ⟨_,sTick_p Li.k Li.t,rfl⟩ fun x8 h8 => ?_;subst h7 h8;rw [whEnd_p Lj,bd_val,sEnd_p L.k L.t,gcall_val,bd_val,iEnd_p Lj.k Lj.w Lj.t Lj.h,gcall_val,bd_val,iUseF_p Lj,gcall_val,bd_val];have ok:endOk e = true → endOk (itT (i + 1) e) = true := fun q => endOk_iff.2 (it_ok (endOk_iff.1 q) (i + 1)).1;refine .ite (fun q => ?_) fun _ => ?_
        · exfalso
          cases hok:endOk e
          · rw [hok] at q; simp at q
          · rw [hok,ok hok] at q; simp at q
        · have cond:∀ q:(decide ((i:Int) < 4) && (e.Keep == 0)) = true,useE (itT (i + 1) e) = useE e := fun q => by
            simp only [Bool.and_eq_true,decide_eq_true_eq,beq_iff_eq] at q;exact it_use q.2 (by omega)
          refine .bd (Q := fun y => (decide ((i:Int) < 4) && (e.Keep == 0)) = true → y = true) (.gcall (fun q => ?_) fun q w => absurd w q) fun x13 h13 => .ite (fun q => ?_) fun _ => .ret ⟨⟨i + 1,by omega,?_⟩,?_⟩
          · rw [if_pos q,cond q];exact ⟨_,whTable_p ul,fun _ => rfl⟩
          · exfalso;simp only [Bool.and_eq_true,Bool.not_eq_true'] at q;have := h13 (by simp only [Bool.and_eq_true]; exact q.1);rw [this] at q; cases q.2
          · rw [wrap_succ (n := 10) (i := i) (by omega) (by decide)]
            rfl
          · rw [wrap_succ (n := 10) (i := i) (by omega) (by decide)];dsimp only;omega
      · have c:¬ (i:Int) < 10 := by simpa using c
        have:i = 10 := by omega
        subst this
        rfl
    · match r,hr with
      | .inr d,hr =>
        obtain ⟨u1,u2,u3⟩ := it_end e;have L10 := (it_lens L0 10).mono (m := 1048576) (by decide);have hup := congrArg HelloEnd.Up hr;have hhe := congrArg HelloEnd.Heard hr;dsimp only at hup hhe ⊢;rw [hr,iUse_p L10,bd_val,hup,hhe,u1,u2,u3];exact .ret rfl
  obtain ⟨x,e,rfl⟩ := key;exact e
end Go.Proofs.YtaoeomoepefojaaGreat
