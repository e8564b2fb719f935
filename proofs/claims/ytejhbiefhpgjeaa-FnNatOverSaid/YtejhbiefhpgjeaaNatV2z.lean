/-
  Plain Lean: behind eight ticks in which nothing goes out nothing comes in; behind four more there are no entries; the row FnNatOver.
-/
import Derived.Test.YtejhbiefhpgjeaaKz3
import Derived.Test.YtejhbiefhpgjeaaNatPo4z
import Derived.Test.YtejhbiefhpgjeaaNatVz
set_option linter.all false
namespace Go.Proofs.Ytejhbiefhpgjeaa
open Go Go.Ab
set_option maxHeartbeats 400000
theorem wvBook_p {b:NatBook} (hd:b.Doors.length ≤ 1048576) (he:b.Entries.length ≤ 1048576):laws_wvBook_m b b = some true := by
  unfold laws_wvBook_m;rw [if_neg (by simp),lp_all b.Doors.length (fun _ => true) (.inl ()) (.inr ()) (fun i hi _ => ?_) (fun _ => by rw [if_neg (by simp)]),if_pos (allR_of fun _ _ => rfl),bd_val]
  · dsimp only;rw [lp_all b.Entries.length (fun _ => true) (.inl ()) (.inr ()) (fun i hi _ => ?_) (fun _ => by rw [if_neg (by simp)]),if_pos (allR_of fun _ _ => rfl),bd_val];rw [if_pos (by simp; omega),gd_pos (by omega),gd_pos (by omega),if_neg (by simp),wrap_succ hi (by omega),if_pos rfl]
  · rw [if_pos (by simp; omega),gd_pos (by omega),gd_pos (by omega),if_neg (by simp),wrap_succ hi (by omega),if_pos rfl]
theorem drawTick_post {b:List Int} (hb:b.length ≤ 9223372036854775807) (h:∀ x ∈ b,FitsB x):Post (spec_DrawNatTick_m b) fun x => Bk x 3 21 := by
  unfold spec_DrawNatTick_m;exact .bd (open_post hb h) fun x1 h1 => .bd (any_post h1 (by omega)) fun x2 ⟨b2,h2⟩ => .ret b2
theorem tick_lens {b:NatBook}:(natTick b).1.Doors.length ≤ b.Doors.length ∧ (natTick b).1.Entries.length ≤ b.Entries.length := by
  unfold natTick;split
  · split
    · exact ⟨Nat.le_refl _,Nat.le_refl _⟩
    · exact ⟨Nat.le_refl _,List.length_filter_le _ _⟩
  · exact ⟨Nat.zero_le _,Nat.zero_le _⟩
theorem ticks_lens {b:NatBook}:∀ i,(ticks b i).Doors.length ≤ b.Doors.length ∧ (ticks b i).Entries.length ≤ b.Entries.length
  | 0 => ⟨Nat.le_refl _,Nat.le_refl _⟩
  | i + 1 => ⟨Nat.le_trans tick_lens.1 (ticks_lens i).1,Nat.le_trans tick_lens.2 (ticks_lens i).2⟩
theorem fnNatOver_p {a0 a1:List Int} (h:a0.length ≤ 9223372036854775807 ∧ ∀ x ∈ a0,FitsB x) (h':a1.length ≤ 9223372036854775807 ∧ ∀ x ∈ a1,FitsB x):laws_FnNatOver_m a0 a1 = some true := by
  have key:Post (laws_FnNatOver_m a0 a1) fun x => x = true := by
    unfold laws_FnNatOver_m;refine .ite (fun _ => .ret rfl) fun _ => .bd (drawTick_post h.1 h.2) fun b hb => ?_;have b1 := hb.d;have b2 := hb.e;have lens := ticks_lens (b := b);refine .bd (Q := fun x => ∃ d,x = .inr d ∧ (⟨d.1,d.2.1,d.2.2.1,d.2.2.2.1,d.2.2.2.2.1,d.2.2.2.2.2.1,d.2.2.2.2.2.2.1,d.2.2.2.2.2.2.2⟩:NatBook) = ticks b 12) (.lp (fun s => ∃ i:Nat,s.2.2.2.2.2.2.2.2 = (i:Int) ∧ i ≤ 12 ∧ (⟨s.1,s.2.1,s.2.2.1,s.2.2.2.1,s.2.2.2.2.1,s.2.2.2.2.2.1,s.2.2.2.2.2.2.1,s.2.2.2.2.2.2.2.1⟩:NatBook) = ticks b i) (fun s => 12 - s.2.2.2.2.2.2.2.2.toNat) ⟨0,rfl,Nat.zero_le _,rfl⟩ fun s ⟨i,ei,hi,ex⟩ => ?_) fun x5 ⟨d,ed,ex⟩ => ?_
    · obtain ⟨s1,s2,s3,s4,s5,s6,s7,s8,s9⟩ := s;dsimp only at ei ex ⊢;subst ei;refine .ite (fun c => ?_) fun c => .ret ⟨_,rfl,?_⟩
      · have c := of_decide_eq_true c;have hi':i < 12 := by omega
        have li := lens i;have lj := lens (i + 1);have lj':(natTick (ticks b i)).1.Doors.length ≤ b.Doors.length ∧ (natTick (ticks b i)).1.Entries.length ≤ b.Entries.length := lj;rw [ex,implTick_p (by omega) (by omega),bd_val,specTick_p,bd_val,wvBook_p (by omega) (by omega)];rw [show ((natTick (ticks b i)).2 != (natTick (ticks b i)).2) = false by simp,gcall_pos rfl,bd_val,if_neg (by decide),wrap_succ hi' (by omega)];refine .bd (Q := fun x => x = .inr ()) (.lp (fun q => 0 ≤ q ∧ q ≤ b.Entries.length) (fun q => (b.Entries.length - q).toNat) ⟨Int.le_refl _,by omega⟩ fun q ⟨q1,q2⟩ => .ite (fun k => ?_) fun _ => .ret rfl) fun x12 e12 => ?_
        · simp only [Bool.and_eq_true,decide_eq_true_eq,beq_iff_eq] at k;obtain ⟨⟨k1,k2⟩,k3⟩ := k;have wq:IntKind.i64.wrap (q + 1) = q + 1 := wrap_i64 (by omega) (by omega);have ok:b.ok = true := by
            cases hx:b.ok
            · have := (ticks_bad hx i).2.1;rw [this] at k3;exact absurd k3 (by decide)
            · rfl
          have T := ticks_good ok i;have T1 := ticks_good ok (i + 1);have ne := (tick_code T.ok).1 k3;have n0 := T.now;have nn:(ticks b (i + 1)).Now = b.Now + ((i + 1:Nat):Int) := by
            rcases T1.now with e | ⟨e,e'⟩
            · exact e
            · have hin := now_in T.ok;have:(ticks b i).Now = b.Now + i := by
                rcases n0 with e | ⟨e,_⟩
                · exact e
                · exact absurd e ne
              omega
          have six := old_six ok T1 nn (by omega) (k := q.toNat) (by omega);refine .gd (by omega) ?_;have six':(natIn (natTick (ticks b i)).1 ⟨(b.Entries.getD q.toNat default).Kind,(b.Entries.getD q.toNat default).Peer,(b.Entries.getD q.toNat default).PeerPort,b.Own,(b.Entries.getD q.toNat default).Outer⟩).2 = 6 := six;rw [implNatIn_p (by omega) (by omega),bd_val,if_neg (by rw [six']; decide),wq];exact .ret ⟨⟨by omega,by omega⟩,by omega⟩
        · rw [e12];exact .ret ⟨⟨i + 1,rfl,by omega,rfl⟩,by dsimp only; omega⟩
      · have:i = 12 := by
          simp only [decide_eq_true_eq] at c;omega
        rw [this] at ex;exact ex
    · rw [ed];dsimp only;have l12 := lens 12;rw [specBookOk_p,bd_val,ex]
      cases ok:b.ok
      · rw [if_pos (by decide),(ticks_bad ok 11).2.2,wvBook_p (by simp) (by simp),bd_val];exact .ret rfl
      · rw [if_neg (by decide)];refine .bd (drawNatIn_post h'.1 h'.2) fun x21 _ => ?_;rw [implNatIn_p (by omega) (by omega),bd_val,specNatIn_p (by omega) (by omega),bd_val];have T := ticks_good ok 12;have n := now_in ok;have el:((d.2.2.2.2.2.2.2.length:Nat):Int) = (((ticks b 12).Entries.length:Nat):Int) := by rw [← ex]
        rw [el,wrap_i64 (n := b.Now + 8) (by omega) (by omega),wrap_i64 (by omega) (by omega)];refine .ret ?_;rw [beq_self_eq_true,Bool.true_and,Bool.or_eq_true,decide_eq_true_eq,beq_iff_eq]
        by_cases c:b.Now + 8 + 4 > 1000000
        · exact .inl c
        · refine .inr ?_;rw [all_gone ok T (by omega)]
          rfl
  obtain ⟨x,e,hx⟩ := key;rw [e,hx]
end Go.Proofs.Ytejhbiefhpgjeaa
