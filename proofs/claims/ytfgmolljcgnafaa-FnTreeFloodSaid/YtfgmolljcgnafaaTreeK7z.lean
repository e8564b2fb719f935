/-
  Plain Lean: the row FnTreeFlood.
-/
import Derived.Test.YtfgmolljcgnafaaKz5
import Derived.Test.YtfgmolljcgnafaaTreeK6z
set_option linter.all false
namespace Go.Proofs.Ytfgmolljcgnafaa
open Go Go.Ab
set_option maxHeartbeats 400000
theorem cnt_none {p:Nat → Bool}:∀ {n:Nat},(∀ i,i < n → p i = false) → cntN p n = 0
  | 0,_ => rfl
  | n + 1,h => by rw [cntN_succ,cnt_none fun i hi => h i (by omega),if_neg (by rw [h n (by omega)]; decide)]
theorem cnt_one {p:Nat → Bool}:∀ {n:Nat},(∀ i j,i < n → j < n → p i = true → p j = true → i = j) → (∃ i,i < n ∧ p i = true) → cntN p n = 1
  | 0,_,⟨i,hi,_⟩ => absurd hi (Nat.not_lt_zero _)
  | n + 1,h,⟨i,hi,hp⟩ => by
    rw [cntN_succ]
    by_cases c:p n = true
    · rw [if_pos c,cnt_none fun k hk => by
        cases e:p k
        · rfl
        · have := h k n (by omega) (by omega) e c; omega]
    · rw [if_neg c,cnt_one (fun i j hi hj => h i j (by omega) (by omega)) ⟨i,by
        have:i ≠ n := fun e => c (e ▸ hp);omega,hp⟩]
theorem fnTreeFlood_p {a0 a1:List Int} (h:a0.length ≤ 9223372036854775807 ∧ ∀ x ∈ a0,FitsB x) (_:a1.length ≤ 9223372036854775807 ∧ ∀ x ∈ a1,FitsB x):laws_FnTreeFlood_m a0 a1 = some true := by
  have key:Post (laws_FnTreeFlood_m a0 a1) fun x => x = true := by
    unfold laws_FnTreeFlood_m;refine .ite (fun _ => .ret rfl) fun _ => .bd (any_good h.1 h.2) fun w g => .gd (by decide) ?_;rw [iCalm_p g,bd_val,show rnds 32 = 32 from rfl];have rt := rt_calm g (off w (((a1.length:Nat):Int).tmod 12)) (n := 32) (by omega);generalize itN (roundR (off w (((a1.length:Nat):Int).tmod 12))) 32 w = v at *;have hl:v.Len 9223372036854775807 := Len.mono rt.g.len (by omega);have hw := rt.g.wok;have h8 := rt.g.n8;have n1 := rt.g.n1;have oo := openL_open v;have ker := fun k k' => all_ker hw (k := k) (k' := k');have hlen:(headsOf v (openL v v.Links.length)).1.length = v.Bridges.length := (hd_of hw oo.ins).len;rw [wtAll_p hw rt.g.dn,bd_val,wtHeads_p hw oo.ins (openL_le rt.g),bd_val];generalize (headsOf v (openL v v.Links.length)).1 = H at *;refine .bd (Q := fun x => x = .inr ()) (.lp (fun s => 0 ≤ s ∧ s ≤ v.Bridges.length) (fun s => (v.Bridges.length - s).toNat) ⟨Int.le_refl _,by omega⟩ fun s ⟨s1,s2⟩ => .ite (fun c => ?_) fun _ => .ret rfl) fun x9 e9 => ?_
    · have c := of_decide_eq_true c;have ws:IntKind.i64.wrap (s + 1) = s + 1 := wrap_i64 (by omega) (by omega);have es:((s.toNat:Nat):Int) = s := by omega
      obtain ⟨q,q1,q2,q3,q4⟩ := flood_all rt (a := s.toNat) (by omega);obtain ⟨r,r1,r2,r3⟩ := flood_both hl s (a2 := 100) (by unfold Fits; omega);rw [es] at q1;rw [q1] at r2;obtain rfl := Option.some.inj r2;rw [q1,bd_val,r3,bd_val,wtInts_self (by omega),bd_val,if_neg (by decide),ws];refine .bd (Q := fun x => x = .inr ()) (.lp (fun b => 0 ≤ b ∧ b ≤ v.Bridges.length) (fun b => (v.Bridges.length - b).toNat) ⟨Int.le_refl _,by omega⟩ fun b ⟨b1,b2⟩ => .ite (fun d => ?_) fun _ => .ret rfl) fun x16 e16 => by rw [e16]; exact .ret ⟨⟨by omega,by omega⟩,by omega⟩
      have d := of_decide_eq_true d;have wb:IntKind.i64.wrap (b + 1) = b + 1 := wrap_i64 (by omega) (by omega);have eb:((b.toNat:Nat):Int) = b := by omega
      have q4 := q4 b.toNat (by omega);rw [eb] at q4;refine .bd (Q := fun x => x = ((cntN (fun i => q.getD i default == b) q.length:Nat):Int)) (.lp (fun t => t.1 = ((cntN (fun i => q.getD i default == b) t.2.toNat:Nat):Int) ∧ 0 ≤ t.2 ∧ t.2 ≤ q.length) (fun t => (q.length - t.2).toNat) ⟨rfl,Int.le_refl _,by dsimp only; omega⟩ fun t ⟨t1,t2,t3⟩ => .ite (fun e => ?_) fun e => .ret ?_) fun x20 e20 => ?_
      · have e := of_decide_eq_true e;have w2:IntKind.i64.wrap (t.2 + 1) = t.2 + 1 := wrap_i64 (by omega) (by omega);have cm := cntN_max (p := fun i => q.getD i default == b) (n := t.2.toNat);have w1:IntKind.i64.wrap (t.1 + 1) = t.1 + 1 := wrap_i64 (by omega) (by omega);have sc := cntN_succ (p := fun i => q.getD i default == b) (n := t.2.toNat);rw [w1,w2];have tn:(t.2 + 1).toNat = t.2.toNat + 1 := by omega
        refine .gd (by omega) (.ite (fun f => .ret ⟨⟨?_,by dsimp only; omega,by dsimp only; omega⟩,by dsimp only; omega⟩) fun f => .ret ⟨⟨?_,by dsimp only; omega,by dsimp only; omega⟩,by dsimp only; omega⟩)
        · dsimp only;rw [if_pos f] at sc;rw [tn,sc]; omega
        · dsimp only;rw [if_neg f] at sc;rw [tn,sc]; omega
      · have e:¬ t.2 < _ := fun hh => e (decide_eq_true hh);rw [t1,show t.2.toNat = q.length by omega]
      · rw [wb,e20];have kr := ker b.toNat s.toNat (by omega) (by omega);refine .gd (fun _ => by omega) (.gd (fun _ => by omega) ?_)
        by_cases cc:∃ i,i < q.length ∧ q.getD i default = b
        · have k := q4.1 cc;have one:cntN (fun i => q.getD i default == b) q.length = 1 := cnt_one (fun i j hi hj h1 h2 => q3 i j hi hj (by rw [beq_iff_eq] at h1 h2; rw [h1,h2])) (by
            obtain ⟨i,hi,e⟩ := cc;exact ⟨i,hi,by rw [beq_iff_eq]; exact e⟩)
          have c1:(b != s) = true := by rw [bne_iff_ne]; intro hh; exact k.1 (by rw [hh])
          have c2:(H.getD b.toNat default == H.getD s.toNat default) = true := by rw [beq_iff_eq]; exact kr.2 k.2
          rw [one,c1,c2,if_pos (by decide),if_neg (by decide)];exact .ret ⟨⟨by omega,by omega⟩,by omega⟩
        · have zero:cntN (fun i => q.getD i default == b) q.length = 0 := cnt_none fun i hi => by
            rw [beq_eq_false_iff_ne];exact fun e => cc ⟨i,hi,e⟩
          have c3:((b != s) && (H.getD b.toNat default == H.getD s.toNat default)) = false := by
            rw [Bool.and_eq_false_iff]
            by_cases hh:b = s
            · left; rw [hh]; simp
            · right
              rw [beq_eq_false_iff_ne];exact fun e => cc (q4.2 ⟨fun e2 => hh (by omega),kr.1 e⟩)
          rw [zero,c3,if_neg (by decide),if_neg (by decide)];exact .ret ⟨⟨by omega,by omega⟩,by omega⟩
    · rw [e9];dsimp only;refine .ret (decide_eq_true ?_);omega
  obtain ⟨x,e,hx⟩ := key;rw [e,hx]
end Go.Proofs.Ytfgmolljcgnafaa
