/-
  Plain Lean: the links that let frames pass, when all is as it should be: those towards roots. The laws' classes of bridges.
-/
import Derived.Test.YtejhbiefhpgjeaaGreatKz5
import Derived.Test.YtejhbiefhpgjeaaGreatTreeK2z
import Derived.Test.YtejhbiefhpgjeaaGreatTreeHz
set_option linter.all false
namespace Go.Proofs.YtejhbiefhpgjeaaGreat
open Go Go.Ab
set_option maxHeartbeats 400000
noncomputable def par (w:TreeWorld) (b:Nat):Int:=(mindOf w b).Link
def mz (w:TreeWorld) (b:Nat):Int:=((netOf w).costs (rootOf w b)).getD b default
structure Par (w:TreeWorld) (b l u:Nat) (e:Int):Prop where
  link:par w b=(l:Int)
  hl:l < w.Links.length
  he:e=0 ∨ e=1
  op:isOpen w l=true
  hb:brAt w l e=(b:Int)
  hu:brAt w l (1 - e)=(u:Int)
  un:u < w.Bridges.length
  root:rootOf w u=rootOf w b
  cost:mz w u+(w.Links.getD l default).Cost=mz w b
  less:mz w u < mz w b
theorem par_root {w:TreeWorld} {b:Nat} (h:b=rootOf w b):par w b=-1:=by unfold par mindOf; exact if_pos h
theorem par_of {w:TreeWorld} (hw:WOk w) {b:Nat} (hb:b < w.Bridges.length) (h:b ≠ rootOf w b):∃ l u e,Par w b l u e:=by
  obtain ⟨r1,r2⟩:=root_J hw hb;have rb:J w (rootOf w b) b:=r2.symm hw hb r1;obtain ⟨u1,u2,u3,u4,u5,u6⟩:=up_next hw r1 hb h rb;obtain ⟨t1,t2⟩:=upOf_tight (w:=w) ((netOf w).costs (rootOf w b)) b u1;have pl:par w b=(upOf w ((netOf w).costs (rootOf w b)) b).link:=by unfold par mindOf; exact if_neg h
  generalize hU:upOf w ((netOf w).costs (rootOf w b)) b=U at *;obtain ⟨l,hl⟩:∃ l:Nat,U.link=l:=⟨U.link.toNat,by omega⟩;obtain ⟨u,hu⟩:∃ u:Nat,U.next=u:=⟨U.next.toNat,by omega⟩;rw [hl,Int.toNat_natCast] at u6 t1 t2;rw [hu,Int.toNat_natCast] at u5 t2;rw [hu] at u6;have hll:l < w.Links.length:=by omega
  have lk:=linkAt hw.link hll;have ju:J w (rootOf w b) u:=by unfold J at rb ⊢; omega
  have re:rootOf w u=rootOf w b:=(root_eq hw hb (by omega) (r2.trans hw hb r1 (by omega) ju)).symm;obtain ⟨e,he,hb1,hb2⟩:∃ e:Int,(e=0 ∨ e=1)∧brAt w l e=(b:Int)∧brAt w l (1 - e)=(u:Int):=by
    unfold othOf at u6
    by_cases c1:(b:Int)=(w.Links.getD l default).A
    · rw [if_pos c1] at u6;exact ⟨0,.inl rfl,c1.symm,u6⟩
    · rw [if_neg c1] at u6
      by_cases c2:(b:Int)=(w.Links.getD l default).B
      · rw [if_pos c2] at u6;exact ⟨1,.inr rfl,c2.symm,u6⟩
      · rw [if_neg c2] at u6; omega
  exact ⟨l,u,e,pl.trans hl,hll,he,t1,hb1,hb2,by omega,re,by unfold mz; rw [re]; exact t2,by unfold mz; rw [re]; exact u5⟩
theorem par_get {w:TreeWorld} (hw:WOk w) {b i:Nat} (hb:b < w.Bridges.length) (h:par w b=(i:Int)):∃ u e,Par w b i u e:=by
  by_cases c:b=rootOf w b
  · rw [par_root c] at h; omega
  · obtain ⟨l,u,e,p⟩:=par_of hw hb c;have e1:=p.link;have:l=i:=by omega
    subst this;exact ⟨u,e,p⟩
theorem J.ends {w:TreeWorld} (hw:WOk w) {i:Nat} (hi:i < w.Links.length) (ho:isOpen w i=true) {e:Int} (he:e=0 ∨ e=1):J w (brAt w i e).toNat (brAt w i (1 - e)).toNat:=by
  have lk:=linkAt hw.link hi;rcases he with rfl | rfl
  · exact J.link hw hi ho
  · have a0:=brAt_in hw hi 0;have a1:=brAt_in hw hi 1;exact J.symm hw (u:=(brAt w i 0).toNat) (v:=(brAt w i 1).toNat) (by omega) (by omega) (J.link hw hi ho)
theorem Right.ends {w v:TreeWorld} (hw:WOk w) (hd:w.Down.length≤9223372036854775807) (h:Right w v) {i:Nat} (hi:i < w.Links.length) (ho:isOpen w i=true) {e:Int} (he:e=0 ∨ e=1) :
    (v.Bridges.getD (brAt w i e).toNat default).Mind=mindOf w (brAt w i e).toNat∧(slotAt v i e).Vector=(mindOf w (brAt w i (1 - e)).toNat).Vector:=by
  have b0:=brAt_in hw hi e;have b1:=brAt_in hw hi (1 - e);exact ⟨h.mind hw hd (by omega) (open_up ho e),(h.sl i e hi he ho).2 (by have:=rk_8 hw (r:=rootOf w (brAt w i (1 - e)).toNat) (v:=(brAt w i (1 - e)).toNat) (by omega); omega)⟩
theorem Right.lets {w v:TreeWorld} (hw:WOk w) (hd:w.Down.length≤9223372036854775807) (h:Right w v) {i:Nat} (hi:i < w.Links.length) (ho:isOpen w i=true) {e:Int} (he:e=0 ∨ e=1) :
    letsOf v i (brAt v i e) (brAt v i (1 - e)) (slotAt v i e).Vector=(decide (par w (brAt w i e).toNat=(i:Int)) || decide (mz w (brAt w i e).toNat < mz w (brAt w i (1 - e)).toNat ∨ (mz w (brAt w i e).toNat=mz w (brAt w i (1 - e)).toNat∧idAt w (brAt w i e).toNat < idAt w (brAt w i (1 - e)).toNat))):=by
  obtain ⟨m1,m2⟩:=h.ends hw hd hi ho he;have b0:=brAt_in hw hi e;have b1:=brAt_in hw hi (1 - e);have re:rootOf w (brAt w i e).toNat=rootOf w (brAt w i (1 - e)).toNat:=root_eq hw (by omega) (by omega) (J.ends hw hi ho he);have i0:(v.Bridges.getD (brAt w i e).toNat default).Id=idAt w (brAt w i e).toNat:=h.calm.nt.id _;have i1:(v.Bridges.getD (brAt w i (1 - e)).toNat default).Id=idAt w (brAt w i (1 - e)).toNat:=h.calm.nt.id _;have ip:=id_pos hw (root_J hw (b:=(brAt w i (1 - e)).toNat) (by omega)).1;unfold letsOf;rw [h.calm.nt.br,h.calm.nt.br,m1,m2,i0,i1];have nn:nothing (mindOf w (brAt w i (1 - e)).toNat).Vector=false:=by
    unfold nothing mindOf;dsimp only;rw [Bool.and_eq_false_iff]; left; rw [beq_eq_false_iff_ne]; omega
  rw [nn,Bool.false_or];have e1:(mindOf w (brAt w i e).toNat).Vector.Root=(mindOf w (brAt w i (1 - e)).toNat).Vector.Root:=by unfold mindOf; dsimp only; rw [re]
  have e2:(mindOf w (brAt w i e).toNat).Vector.Cost=mz w (brAt w i e).toNat:=rfl;have e3:(mindOf w (brAt w i (1 - e)).toNat).Vector.Cost=mz w (brAt w i (1 - e)).toNat:=rfl;have e4:(mindOf w (brAt w i e).toNat).Link=par w (brAt w i e).toNat:=rfl;rw [e1,e2,e3,e4];refine congr (congrArg or rfl) ?_;rw [Bool.eq_iff_iff,decide_eq_true_eq,decide_eq_true_eq];omega
theorem Right.pass {w v:TreeWorld} (hw:WOk w) (hd:w.Down.length≤9223372036854775807) (h:Right w v) {i:Nat} (hi:i < w.Links.length):passAt v i=true ↔ ∃ b,b < w.Bridges.length∧par w b=(i:Int):=by
  have b0:=brAt_in hw hi 0;have b1:=brAt_in hw hi 1;unfold passAt;rw [h.calm.nt.op]
  cases ho:isOpen w i
  · rw [Bool.false_and,Bool.false_and];refine ⟨fun hh=>absurd hh (by decide),fun ⟨b,hb,hp⟩=>?_⟩;obtain ⟨u,e,p⟩:=par_get hw hb hp;rw [p.op] at ho;exact absurd ho (by decide)
  · have l0:=h.lets hw hd hi ho (e:=0) (.inl rfl);have l1:=h.lets hw hd hi ho (e:=1) (.inr rfl);rw [show (1:Int) - 0=1 from rfl] at l0;rw [show (1:Int) - 1=0 from rfl] at l1;rw [Bool.true_and,l0,l1,Bool.and_eq_true,Bool.or_eq_true,Bool.or_eq_true,decide_eq_true_eq,decide_eq_true_eq,decide_eq_true_eq,decide_eq_true_eq]
    constructor
    · rintro ⟨c0,c1⟩;rcases c0 with c0 | c0
      · exact ⟨_,by omega,c0⟩
      · rcases c1 with c1 | c1
        · exact ⟨_,by omega,c1⟩
        · omega
    · rintro ⟨b,hb,hp⟩;obtain ⟨u,e,p⟩:=par_get hw hb hp;have h1:=p.hb;have h2:=p.hu;have h3:=p.less;rcases p.he with rfl | rfl
      · rw [show (1:Int) - 0=1 from rfl] at h2;rw [h1,h2,Int.toNat_natCast,Int.toNat_natCast];exact ⟨.inl hp,.inr (.inl h3)⟩
      · rw [show (1:Int) - 1=0 from rfl] at h2;rw [h1,h2,Int.toNat_natCast,Int.toNat_natCast];exact ⟨.inr (.inl h3),.inl hp⟩
def hA (w:TreeWorld) (h:List Int) (l:Int):Int:=h.getD (w.Links.getD l.toNat default).A.toNat default
def hB (w:TreeWorld) (h:List Int) (l:Int):Int:=h.getD (w.Links.getD l.toNat default).B.toNat default
end Go.Proofs.YtejhbiefhpgjeaaGreat
