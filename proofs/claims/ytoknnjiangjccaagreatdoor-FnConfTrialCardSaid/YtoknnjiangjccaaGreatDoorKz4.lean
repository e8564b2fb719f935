/-
  What some of the program's functions compute: their models, and that the functions compute these; no condition.
-/
import Derived.Test.YtoknnjiangjccaaGreatDoorTyz
import Derived.Test.YtoknnjiangjccaaGreatDoorTbz
import Derived.Test.YtoknnjiangjccaaGreatDoorLayz
import Derived.Test.YtoknnjiangjccaaGreatDoorLay4z
import Derived.Test.YtoknnjiangjccaaGreatDoorAbz8
import Derived.BigCall
import Derived.BigGuard
import Derived.BigQuiet
import Derived.Deep.QuietTactic
import Derived.Maps.OwnSet
import Derived.StringKeys
import Derived.WalkKit
import Derived.Test.YtoknnjiangjccaaGreatDoorKz3
set_option linter.all false
namespace Go.Proofs.YtoknnjiangjccaaGreatDoor
open Go Go.Ab Tryz
set_option maxRecDepth 100000
set_option maxHeartbeats 40000000
noncomputable section
def Qol:List Bt->Option (List Bt)
 |[]=>some []
 |x::r=>bd (Qbb x) fun k=>gd (k.size<=1000000)<|bd (Qol r) fun G=>some (k::G)
def QrH (G:List Bt):Nat:=(List.range G.length).countP fun i=>!((G.take i).any (· ==G.getD i default))
def Js (a0:(List Bt)):Option (Int):=
 if a0.length>16 then some 1 else
 bd (QB a0) fun b=>
 if b=true then some 2 else
 if QaM a0.length (fun i=>decide (i<1)||bsl (a0.getD (i-1) default) (a0.getD i default))=false then some 3 else
 bd (Qol a0) fun G=>if QrH G<a0.length then some 4 else some 0
namespace Nc
open Go.RowKit Go.Maps
theorem QuN {ks:List Bt} {k:Nat} (h:k<ks.length):QrH (ks.take (k+1))=if(ks.take k).any (· ==ks.getD k default)=true then QrH (ks.take k) else QrH (ks.take k)+1:=by
 unfold QrH
 rw[List.length_take,List.length_take,Nat.min_eq_left (by omega),Nat.min_eq_left (by omega),List.range_succ,List.countP_append]
 have e:∀i,i<k→(!((ks.take (k+1)).take i).any (· ==(ks.take (k+1)).getD i default))=!((ks.take k).take i).any (· ==(ks.take k).getD i default):=fun i hi=>by
  rw[List.take_take,List.take_take,Nat.min_eq_left (by omega),Nat.min_eq_left (by omega)]
  simp[List.getD_eq_getElem?_getD,List.getElem?_take,hi,show i<k+1 by omega]
 have e1:(List.range k).countP (fun i=>!((ks.take (k+1)).take i).any (· ==(ks.take (k+1)).getD i default))=(List.range k).countP fun i=>!((ks.take k).take i).any (· ==(ks.take k).getD i default):=by
  apply List.countP_congr
  intro i hi
  rw[e i (List.mem_range.1 hi)]
 rw[e1,List.countP_cons,List.countP_nil,List.take_take,Nat.min_eq_left (by omega)]
 have e2:(ks.take (k+1)).getD k default=ks.getD k default:=by simp[List.getD_eq_getElem?_getD,List.getElem?_take]
 rw[e2]
 cases (ks.take k).any (· ==ks.getD k default)<;>simp
theorem QuO {ks:List Bt} {k:Nat} (h:k<ks.length) (s:Bt):(ks.take (k+1)).any (· ==s)=((ks.take k).any (· ==s)||ks.getD k default==s):=by
 have e:ks[k]? =some (ks.getD k default):=by simp[List.getD_eq_getElem?_getD,h]
 rw[List.take_succ,e,List.any_append]
 simp
def kl (s:Bt):Lit:=.string s.data.toList
theorem QyS {s t:Bt} (h:kl s=kl t):s=t:=by
 unfold kl at h
 injection h with h
 cases s;cases t
 simp at h
 exact congrArg _ h
theorem bq {s t:Bt}:(s==t)=true↔s=t:=by
 constructor
 ·intro h
  have h1:(s.data==t.data)=true:=h
  have h2:s.data=t.data:=by simpa using h1
  cases s;cases t;simp_all
 ·intro h;subst h
  show(s.data==s.data)=true
  simp
theorem Qom {w w':World} (h:Below w.heap.size w w'):w.grownBy w' none:=⟨h.os,h.tape,h.output,h.size,fun i hi _=>h.block i hi⟩
theorem QyT:Keyed prog 9:=string_keyed underlying9
theorem QwY {P:Program} {t:TypeId} {a b:Bt} {w:World}:(binOp .geq t (.string a) (.string b)).run P w=.ok (.bool (!(bsl a b))) w:=by
 simp[binOp,Op.stringOp,bsl,beq_toListBytes]
theorem QyU (w:World) (b:Nat) (o c n:Nat) (hn:0<n) (hn2:n≤16) (xs ks:List Bt) (hx:xs.length=n) (hks:ks.length=n) (hsz:∀k∈ks,k.size≤1000000) (hb:b<w.heap.size) (V:Int)
  (hc:∀i,i<n→w.cell? ⟨b,o+i,none⟩=some (.string (xs.getD i default)))
  (h3:QaM n (fun i=>decide (i<1)||bsl (xs.getD (i-1) default) (xs.getD i default))=false→V=3)
  (h4:QaM n (fun i=>decide (i<1)||bsl (xs.getD (i-1) default) (xs.getD i default))=true→V=if QrH ks<n then 4 else 0)
  (hkey:QaM n (fun i=>decide (i<1)||bsl (xs.getD (i-1) default) (xs.getD i default))=true→∀w',Below w.heap.size w w'→∀i,i<n→Calls prog 107 #[.string (xs.getD i default)] w' fun e w''=>e=.returned (.string (ks.getD i default))∧Below w'.heap.size w' w'')
  (h119:Calls prog 104 #[.slice (some ⟨b,o,none⟩) n c,.func (.func 105) #[] #[]] w fun e w'=>e=.returned (.bool false)∧Below w.heap.size w w'):
  Calls prog 51 #[.slice (some ⟨b,o,none⟩) n c] w fun e w'=>e=.returned (.int .i64 V)∧Below w.heap.size w w':=by
 have hmm:=@run_makeMap prog
 go_enter func51,ntmps51
 go_wp2_with (go_at_call 104;refine h119.mono ?_;rintro e w1 ⟨rfl,hB1⟩)
 have hc1:∀i,i<n→w1.cell? ⟨b,o+i,none⟩=some (.string (xs.getD i default)):=fun i hi=>(World.cell?_of_block (hB1.block b hb)).trans (hc i hi)
 go_loopw [3] (fun i wr=>∃(k q:Nat),1≤k∧k≤n∧i=.int .i64 k∧wr=w1.drewN q∧∀j,j<k→(decide (j<1)||bsl (xs.getD (j-1) default) (xs.getD j default))=true)
  (fun i _=>n-(intOf i).toNat)
 case atStart=>
  exact⟨1,0,Nat.le_refl _,hn,rfl,rfl,fun j hj=>by simp[hj]⟩
 case round=>
  obtain⟨k,q,hk1,hkn,rfl,rfl,hs⟩:=hrel
  have g1:k<n→(w1.drewN q).cell? ⟨b,o+(k-1),none⟩=some (.string (xs.getD (k-1) default)):=fun h=>hc1 _ (by omega)
  have g2:k<n→(w1.drewN q).cell? ⟨b,o+k,none⟩=some (.string (xs.getD k default)):=fun h=>hc1 _ h
  go_wp2
  ·have hlt:k<n:=by assumption
   have e1:IntKind.i64.wrap ((k:Int) -1)=((k-1:Nat):Int):=QkN hlt (by omega) (by omega)
   have e2:((k-1:Nat):Int).toNat=k-1:=Int.toNat_natCast _
   have e3:((k:Nat):Int).toNat=k:=Int.toNat_natCast _
   have hk1':k-1<n:=by omega
   have g1:=g1 hlt
   have g2:=g2 hlt
   refine wp_region_quiet_lit (by kernel_rfl) (by kernel_rfl) ?_
   repeat (any_goals (first|go_big_quiet_step (fail)|quiet_step (fail)))
   refine wpQuiet_step (fun K hK=>?_)
   go_simp
   refine⟨.bool (!(bsl xs[k-1] xs[k])),fun a=>?_,hK _ ?_⟩
   ·rw[QwY]
    exact⟨rfl,rfl⟩
   refine wpQuiet_nil ?_
   intro _ hw'
   obtain⟨nq,hw''⟩:=hw'
   subst hw''
   have hb1:xs[k-1]=xs.getD (k-1) default:=by rw[List.getD_eq_getElem?_getD,List.getElem?_eq_getElem (by omega)];rfl
   have hb2:xs[k]=xs.getD k default:=by rw[List.getD_eq_getElem?_getD,List.getElem?_eq_getElem (by omega)];rfl
   rw[hb1,hb2]
   clear hb1 hb2 e1 e2 e3 hK K
   have hBd:Below w.heap.size w ((w1.drewN q).drewN nq):=⟨hB1.os,hB1.tape,hB1.output,hB1.size,hB1.block⟩
   by_cases hl:bsl (xs.getD (k-1) default) (xs.getD k default)=true
   ·rw[hl]
    go_wp2
    go_roundw
    case rel=>
     refine⟨k+1,q+nq,by omega,by omega,by go_num,by simp[World.drewN,Nat.add_assoc],fun j hj=>?_⟩
     rcases Nat.lt_or_ge j k with h|h
     ·exact hs j h
     ·have:j=k:=by omega
      subst this
      rw[hl,Bool.or_true]
    case measure=>simp[intOf];omega
   ·rw[Bool.eq_false_iff.2 hl]
    go_wp2
    go_ret
    refine⟨?_,hBd⟩
    rw[h3 (QiQ (i:=k) hlt (by rw[Bool.eq_false_iff.2 hl];simp;omega))]
    rfl
  ·have hkn':k=n:=by omega
   subst hkn'
   have hkk:decide (k<k)=false:=by simp
   rw[hkk]
   have hall:QaM k (fun i=>decide (i<1)||bsl (xs.getD (i-1) default) (xs.getD i default))=true:=Qfj hs
   have hkey:=hkey hall
   clear h3 hs g1 g2 hc1
   have hown:=World.ownsMap_made (H:=Unit) (w1.drewN q) prog 9 (plainElem prog 4)
   have hB2:Below w.heap.size w ((w1.drewN q).alloc (Obj.map #[] 0)):=Below.alloc (w:=w1.drewN q) ⟨hB1.os,hB1.tape,hB1.output,hB1.size,hB1.block⟩ hB1.size _
   have hsz1:(w1.drewN q).heap.size=w1.heap.size:=rfl
   rw[hsz1] at hown
   have hbs:w.heap.size≤w1.heap.size:=hB1.size
   generalize (w1.drewN q).alloc (Obj.map #[] 0)=w2 at hown hB2⊢
   generalize w1.heap.size=mb at hown hbs⊢
   go_loopw [31] (fun i wr=>∃(j:Nat) (D:DataW Unit),j≤k∧i=.int .i64 j∧wr.ownsMap prog 9 (plainElem prog 4) mb j D∧Maps.size D=QrH (ks.take j)∧(∀s,Maps.has D (kl s)=(ks.take j).any (· ==s))∧Below w.heap.size w wr)
    (fun i _=>k-(intOf i).toNat)
   case atStart=>
    exact⟨0,.map [],Nat.zero_le _,rfl,hown,rfl,fun s=>rfl,hB2⟩
   case round=>
    obtain⟨j,D,hjk,rfl,hown,hsize,hhas,hB⟩:=hrel
    have g1:j<k→wr.cell? ⟨b,o+j,none⟩=some (.string (xs.getD j default)):=fun h=>(World.cell?_of_block (hB.block b hb)).trans (hc j h)
    have hlen:(Builtin.len_ #[115] 3 #[.map (some mb)]).run prog wr=.ok (.int .i64 (Maps.size D)) wr:=hown.len underlying115 3
    have hkj:=fun h=>hkey wr hB j h
    have hsj:j<k→(ks.getD j default).size≤1000000:=fun h=>hsz _ (by rw[List.getD_eq_getElem?_getD,List.getElem?_eq_getElem (by omega)];exact List.getElem_mem (by omega))
    have hcs:j<k→QrH (ks.take (j+1))=if(ks.take j).any (· ==ks.getD j default)=true then QrH (ks.take j) else QrH (ks.take j)+1:=fun h=>QuN (by omega)
    have hsn:j<k→∀s,(ks.take (j+1)).any (· ==s)=((ks.take j).any (· ==s)||ks.getD j default==s):=fun h s=>QuO (by omega) s
    clear hkey
    generalize xs.getD j default=x at g1 hkj
    generalize ks.getD j default=y at hkj hsj hcs hsn
    go_wp2_with (first
     |(go_at_call 107;have hlt:j<k:=by assumption
       refine(hkj hlt).mono ?_;rintro e w3 ⟨rfl,hB3⟩)
     |(at_mapUpdate;have hlt:j<k:=by assumption
       have hys:=hsj hlt
       have hk1:=hown.kept (Qom hB3) (by simp)
       have hk2:keyOf prog 9 (.string y)=some (kl y):=Go.WideMaps.keyOf_string_mk underlying9 (by unfold maxLen;omega)
       have hk3:j<maxLen:=by unfold maxLen;omega
       refine wpList_mapUpdate_own _ rfl _ _ _ 115 rfl 9 4 QyT underlying115 (plainElem prog 4) mb j D rfl hk1 hk3 _ _ (kl y) rfl rfl hk2 _ [] (plainElem_bool underlying4 true) ?_
       intro w4 hown4 hgrow4)
     |(at_len;refine wpList_len_own _ rfl _ 115 rfl 9 4 underlying115 (plainElem (H:=Unit) prog 4) mb j D rfl hown ?_)
     |go_in)
    ·have hlt:j<k:=by assumption
     go_roundw
     case rel=>
      refine⟨j+1,D.put (kl y) (.lit (.bool true)),by omega,by go_num,hown4,?_,fun s=>?_,?_⟩
      ·rw[Maps.size_put (hown.tidy QyT),hhas,hcs hlt,hsize]
      ·rw[hsn hlt]
       by_cases hy:y=s
       ·subst hy
        rw[Maps.has_put_same hown.isMap (show WideAt.IsKeyLit (kl y) from trivial)]
        rw[bq.2 rfl,Bool.or_true]
       ·rw[Maps.has_put_other (fun h=>hy (QyS h).symm),hhas]
        have:(y==s)=false:=Bool.eq_false_iff.2 fun h=>hy (bq.1 h)
        rw[this,Bool.or_false]
      ·exact(hB.trans (hB3.mono hB.size)).grown hgrow4 (Nat.le_trans hB.size hB3.size) (fun j hj=>by cases hj;exact hbs)
     case measure=>simp[intOf];omega
    all_goals go_ret
    all_goals refine⟨?_,hB⟩
    all_goals rw[h4 hall]
    all_goals have e:ks.take j=ks:=List.take_of_length_le (by omega)
    all_goals rw[e] at hsize
    all_goals rename_i hcnt
    all_goals rw[e] at hcnt
    ·rw[if_pos hcnt];rfl
    ·rw[if_neg hcnt];rfl
theorem QzO (w:World) (ad:Option Addr) (c n:Nat) (hn:16<n):
  Calls prog 51 #[.slice ad n c] w fun e w'=>e=.returned (.int .i64 1)∧Below w.heap.size w w':=by
 go_enter func51,ntmps51
 go_wp2
 go_ret
 exact⟨rfl,Below.refl _ _⟩
theorem QyV (w:World) (ad:Option Addr) (c n:Nat) (hn:n≤16)
  (h119:Calls prog 104 #[.slice ad n c,.func (.func 105) #[] #[]] w fun e w'=>e=.returned (.bool true)∧Below w.heap.size w w'):
  Calls prog 51 #[.slice ad n c] w fun e w'=>e=.returned (.int .i64 2)∧Below w.heap.size w w':=by
 go_enter func51,ntmps51
 go_wp2_with (go_at_call 104;refine h119.mono ?_;rintro e w1 ⟨rfl,hB1⟩)
 go_ret
 exact⟨rfl,hB1⟩
theorem QyW (w:World) (ad:Option Addr) (c:Nat)
  (h119:Calls prog 104 #[.slice ad 0 c,.func (.func 105) #[] #[]] w fun e w'=>e=.returned (.bool false)∧Below w.heap.size w w'):
  Calls prog 51 #[.slice ad 0 c] w fun e w'=>e=.returned (.int .i64 0)∧Below w.heap.size w w':=by
 have hmm:=@run_makeMap prog
 go_enter func51,ntmps51
 go_wp2_with (go_at_call 104;refine h119.mono ?_;rintro e w1 ⟨rfl,hB1⟩)
 refine wp_loop_rounds 1 ?_
 rw[rounds_succ]
 go_wp2
 refine wp_loop_rounds 1 ?_
 rw[rounds_succ]
 have hown:=World.ownsMap_made (H:=Unit) w1 prog 9 (plainElem prog 4)
 have hB2:Below w.heap.size w (w1.alloc (Obj.map #[] 0)):=hB1.alloc hB1.size _
 have hlen:(Builtin.len_ #[115] 3 #[.map (some w1.heap.size)]).run prog (w1.alloc (Obj.map #[] 0))=.ok (.int .i64 (Maps.size (.map []:DataW Unit))) (w1.alloc (Obj.map #[] 0)):=hown.len underlying115 3
 generalize w1.alloc (Obj.map #[] 0)=w2 at hown hB2 hlen⊢
 generalize w1.heap.size=mb at hown hlen⊢
 go_wp2_with (at_len;refine wpList_len_own _ rfl _ 115 rfl 9 4 underlying115 (plainElem (H:=Unit) prog 4) mb 0 (.map []) rfl hown ?_)
 all_goals go_ret
 all_goals first|exact⟨rfl,hB2⟩|skip
theorem Qmi:∀ {xs ks:List Bt},Qol xs=some ks→ks.length=xs.length∧(∀k∈ks,k.size≤1000000)∧∀i,i<xs.length→Qbb (xs.getD i default)=some (ks.getD i default)
 |[],ks,h=>by
  simp only[Qol,Option.some.injEq] at h
  subst h
  exact⟨rfl,by simp,by simp⟩
 |x::r,ks,h=>by
  unfold Qol at h
  obtain⟨k,hk,h⟩:=Qb h
  obtain⟨g,h⟩:=Qf h
  obtain⟨ks',hks,h⟩:=Qb h
  simp only[Option.some.injEq] at h
  subst h
  obtain⟨h1,h2,h3⟩:=Qmi hks
  refine⟨by simp[h1],fun y hy=>?_,fun i hi=>?_⟩
  ·rcases List.mem_cons.1 hy with rfl|hy
   ·exact g
   ·exact h2 y hy
  ·cases i with
   |zero=>simpa using hk
   |succ i=>simpa using h3 i (by simpa using hi)
theorem QyX {w w':World} (ht:TabB prog (fun b=>b<w.heap.size) w) (hB:Below w.heap.size w w'):TabB prog (fun b=>b<w'.heap.size) w':=
 ht.keep (B':=fun b=>b<w'.heap.size) ⟨hB.os,hB.tape,hB.output,hB.size,hB.block⟩ (fun b h=>Nat.lt_of_lt_of_le h hB.size)
theorem QuP {x k:Bt} (h:Qbb x=some k) (ρ0:Env) {w:World} (ht:TabB prog (fun b=>b<w.heap.size) w):Calls prog 107 #[.string x] w fun e w'=>e=.returned (.string k)∧Below w.heap.size w w':=by
 refine((Ql5 h).out w #[.string x] ρ0 ⟨rfl,fun j v hj=>?_⟩ ht).mono ?_
 ·cases j with
  |zero=>simp only[List.getElem?_cons_zero,Option.some.injEq] at hj;subst hj;exact .d .str
  |succ j=>simp at hj
 ·rintro e w' ⟨v,ρ,rfl,hp,hv,_⟩
  cases hv with
  |d hd=>cases hd with
   |str=>exact⟨rfl,hp.below⟩
theorem QuQ {xs:List Bt} {r:Bool} (h:QB xs=some r) {w:World} {v:Value} {ρ0:Env} (hv:VR w (fun _=>False) ρ0 (.d (slD encSb xs)) v) (ht:TabB prog (fun b=>b<w.heap.size) w):Calls prog 104 #[v,.func (.func 105) #[] #[]] w fun e w'=>e=.returned (.bool r)∧Below w.heap.size w w':=by
 refine((JY h).out w #[v,.func (.func 105) #[] #[]] ρ0 ⟨rfl,fun j u hj=>?_⟩ ht).mono ?_
 ·rcases j with _|_|j
  ·simp only[List.getElem?_cons_zero,Option.some.injEq] at hj;subst hj;exact hv
  ·simp only[List.getElem?_cons_succ,List.getElem?_cons_zero,Option.some.injEq] at hj;subst hj
   exact .fn rfl fun j u hj=>by simp at hj
  ·simp at hj
 ·rintro e w' ⟨v,ρ,rfl,hp,hv,_⟩
  cases hv with
  |d hd=>cases hd with
   |bool=>exact⟨rfl,hp.below⟩
theorem walk {xs:List Bt} {r:Int} (h:Js xs=some r) {w:World} {v:Value} {ρ0:Env} (hv:VR w (fun _=>False) ρ0 (.d (slD encSb xs)) v) (ht:TabB prog (fun b=>b<w.heap.size) w):
  Calls prog 51 #[v] w fun e w'=>e=.returned (.int .i64 r)∧Below w.heap.size w w':=by
 have hform:(∃ad c,v=.slice ad 0 c∧xs.length=0)∨ ∃b o c,v=.slice (some ⟨b,o,none⟩) xs.length c∧b<w.heap.size∧∀i,i<xs.length→w.cell? ⟨b,o+i,none⟩=some (.string (xs.getD i default)):=by
  cases hv with
  |d hd=>
   cases hd with
   |sl0 hn=>exact .inl ⟨_,_,rfl,hn⟩
   |sl vals ho hb hl hcell hval hcap=>
    refine .inr ⟨_,_,_,rfl,hb,fun i hi=>?_⟩
    have er:rows encSb xs i=[.str (xs.getD i default)]:=rfl
    have h1:=hl i hi
    rw[er] at h1
    have h2:=hcell i 0 (.str (xs.getD i default)) hi (by rw[er];rfl)
    have h3:=hval i 0 (.str (xs.getD i default)) hi (by rw[er];rfl)
    rw[←h1] at h2
    generalize vals i 0=u at h2 h3
    cases h3
    simpa using h2
 unfold Js at h
 by_cases h16:xs.length>16
 ·rw[if_pos h16] at h
  simp only[Option.some.injEq] at h
  subst h
  rcases hform with ⟨ad,c,rfl,h0⟩|⟨b,o,c,rfl,_,_⟩
  ·omega
  ·exact QzO w _ c _ h16
 rw[if_neg h16] at h
 obtain⟨bl,hbl,h⟩:=Qb h
 have hcall:=QuQ hbl hv ht
 cases bl with
 |true=>
  rw[if_pos rfl] at h
  simp only[Option.some.injEq] at h
  subst h
  rcases hform with ⟨ad,c,rfl,h0⟩|⟨b,o,c,rfl,_,_⟩
  ·exact QyV w _ c _ (by omega) hcall
  ·exact QyV w _ c _ (by omega) hcall
 |false=>
  rw[if_neg (by decide)] at h
  rcases hform with ⟨ad,c,rfl,h0⟩|⟨b,o,c,rfl,hb,hc⟩
  ·have hx:xs=[]:=List.eq_nil_of_length_eq_zero h0
   subst hx
   have:r=0:=by
    have e:some (0:Int)=some r:=h
    simpa using e.symm
   subst this
   exact QyW w _ c hcall
  ·by_cases hn:xs.length=0
   ·have hx:xs=[]:=List.eq_nil_of_length_eq_zero hn
    subst hx
    have:r=0:=by
     have e:some (0:Int)=some r:=h
     simpa using e.symm
    subst this
    exact QyW w _ c hcall
   ·cases ha:QaM xs.length fun i=>decide (i<1)||bsl (xs.getD (i-1) default) (xs.getD i default)
    ·rw[ha,if_pos rfl] at h
     simp only[Option.some.injEq] at h
     refine QyU w b o c xs.length (by omega) (by omega) xs (xs.map fun _=>default) rfl (by simp) (fun k hk=>?_) hb r hc (fun _=>h.symm) (fun h=>by rw[ha] at h;cases h) (fun h=>by rw[ha] at h;cases h) hcall
     obtain⟨_,_,rfl⟩:=List.mem_map.1 hk
     decide
    ·rw[ha,if_neg (by decide)] at h
     obtain⟨ks,hks,h⟩:=Qb h
     obtain⟨k1,k2,k3⟩:=Qmi hks
     refine QyU w b o c xs.length (by omega) (by omega) xs ks rfl k1 k2 hb r hc (fun h=>by rw[ha] at h;cases h) (fun _=>?_) (fun _ w' hB i hi=>QuP (k3 i hi) ρ0 (QyX ht hB)) hcall
     split at h<;>rename_i hc<;>simp only[Option.some.injEq] at h
     ·rw[if_pos hc];exact h.symm
     ·rw[if_neg hc];exact h.symm
end Nc
theorem Qgd {a0:(List Bt)} {r:Int} (h:Js a0=some r):PureC prog 51 [.d (slD encSb a0)] (dI r) []:=by
 unfold Js at h
 exact Qhn (v:=.int .i64 r) ⟨f51,rfl,by kernel_rfl,by kernel_rfl⟩ rfl (fun _=>rfl) (fun _ _ _=>.d .int) fun w vals ρ0 hv ht=>by
  obtain⟨U,J⟩:=hv
  have e:vals=#[vals.getD 0 undef]:=by
   apply Array.ext
   ·simpa using U
   ·intro i hi G
    have I:i=0:=by simp at G;exact G
    subst I
    simp[hi]
  have hv:=J 0 _ rfl
  rw[e]
  exact(Nc.walk h hv ht).mono fun e w' ⟨O,hb⟩=>⟨O,Below.pure hb⟩
def QH (a0:(List Bt)) (I:Bt):Option ((List (List Bt))):=
 bd (lp (σ:=List (List Bt)×Int) (β:=(Nat×(List (List Bt)))) (fun s1=>
(if(decide (s1.2<((a0.length:Nat):Int)))=true then
 gd ((0:Int)<=s1.2∧s1.2<((a0.length:Nat):Int))<|
 bd (ZJ (a0.getD s1.2.toNat default) (⟨#[32]⟩:Bt)) fun G=>
 gd ((0:Int)<=0∧0<((G.length:Nat):Int))<|
(if((G.getD 0 default)==I)=true then
 gd (((s1.1.length)+(([G]:List (List Bt)).length))*(24+1)<=70368744177664)<|
 some (.inl ((s1.1++([G]:List (List Bt))),IntKind.i64.wrap (s1.2+1)))
else
 some (.inl (s1.1,IntKind.i64.wrap (s1.2+1))))
else
 some (.inr (s1.1.length,s1.1)))) (([]:List (List Bt)),0)) fun J=>
 some J.2
theorem Z2 {a0:(List Bt)} {O:Bt} {r:(List (List Bt))} (h:QH a0 O=some r):EffC prog 109 [.d (slD encSb a0),.d (.str O)] [] (.osl 5001 0 r.length) [(5001,.arr 23 1 r.length (rows (Qfk encSb) r))]:=by
 refine eY tOk f109 rfl (Qc tOk ?_);obtain⟨x4,I,h⟩:=Qb h;refine QF tOk I (fun s1=>⟨0,29,[(1,.d (.str O)),(5,.osl 7001 0 s1.1.length),(10,.d (slD encSb a0)),(11,dI ((a0.length:Nat):Int)),(12,dI s1.2)],[],[(7001,.arr 23 1 s1.1.length (rows (Qfk encSb) s1.1))],[⟨[],[]⟩]⟩) ?_ ?_
 ·exact leX [.k [7001],.p 7001 23 1 (rows (Qfk encSb) ([]:List (List Bt)))]
 ·clear I;intro s1 y2 G J;refine Qc tOk ?_;apply Qo G<;>intro _ G
  ·refine Qc tOk (gdI G fun G=>bC G 1000 (fun _=>QcB) fun U G=>gdI G fun G=>?_);apply Qo G<;>intro _ G
   ·refine QbB (enc:=(Qfk encSb)) ([U]:List (List Bt)) (gdI G fun G=>Qf7 (enc:=(Qfk encSb)) (xs:=s1.1) (ys:=([U]:List (List Bt))) ?_);exact eX G []
   ·exact eX G []
  ·cases G
   cases J _ rfl
   cases h
   exact lfE [.s [(5001,7001),(7001,5001)]]
def QaY (a0:(List Bt)):Option (Bool):=
 gd ((0:Int)<=2∧2<((a0.length:Nat):Int))<|
 some ((a0.getD 2 default)==(⟨#[97,108,108]⟩:Bt))
theorem QjX {a0:(List Bt)} {r:Bool} (h:QaY a0=some r):PureC prog 110 [.d (slD encSb a0)] (dB r) []:=by
 refine pY tOk f110 rfl (gdI h fun h=>?_);cases h;exact lfP []
def ZK (a0:(List (List Bt))):Option (Int):=
 bd (lp (σ:=Int) (β:=(Int⊕Unit)) (fun s1=>
(if(decide (s1<((a0.length:Nat):Int)))=true then
 gd ((0:Int)<=s1∧s1<((a0.length:Nat):Int))<|
 bd (QaY (a0.getD s1.toNat default)) fun G=>
(if G=true then
 some (.inr (.inl s1))
else
 some (.inl (IntKind.i64.wrap (s1+1))))
else
 some (.inr (.inr ())))) 0) fun I=>
(match I with
| .inl J=>
 some J
| .inr d8=>
 some (-1))
theorem Qap {a0:(List (List Bt))} {r:Int} (h:ZK a0=some r):PureC prog 157 [.d (slD (Qfk encSb) a0),.fn 110 []] (dI r) []:=by
 refine pY tOk f157 rfl (Qc tOk ?_);obtain⟨x4,I,h⟩:=Qb h;refine QF tOk I (fun s1=>⟨0,19,[(0,.d (slD (Qfk encSb) a0)),(1,.fn 110 []),(7,dI ((a0.length:Nat):Int)),(8,dI s1)],[],[],[]⟩) ?_ ?_
 ·exact leX []
 ·clear I;intro s1 y2 G J;refine Qc tOk ?_;apply Qo G<;>intro _ G
  ·refine Qc tOk (gdI G fun G=>bC G 0 (fun _=>QjX) fun x6 G=>?_);apply Qo G<;>intro _ G
   ·cases G
    cases J _ rfl
    cases h
    exact lfP []
   ·exact eX G []
  ·cases G
   cases J _ rfl
   cases h
   exact lfP []
def Q3 (a0:(List (List Bt))):Option (Bool):=
 bd (ZK a0) fun G=>
 some (decide (G>=0))
theorem J7 {a0:(List (List Bt))} {r:Bool} (h:Q3 a0=some r):PureC prog 108 [.d (slD (Qfk encSb) a0),.fn 110 []] (dB r) []:=by
 refine pY tOk f108 rfl (bC h 0 (fun _=>Qap) fun x1 h=>?_);cases h;exact lfP []
def Qdo (a0:(List Bt)):Option (Bool):=
 bd (QH a0 (⟨#[117,115,101,114]⟩:Bt)) fun G=>
 bd (Q3 G) fun I=>
 some (!I)
theorem Ql6 {a0:(List Bt)} {r:Bool} (h:Qdo a0=some r):PureC prog 52 [.d (slD encSb a0)] (dB r) []:=by
 refine pY tOk f52 rfl (bE h [] 1000 (fun _=>Z2) fun x1 h=>bC h 0 (fun _=>J7) fun x2 h=>?_);cases h;exact lfP []
def QbT (a0:(List Bt)) (J:Bt):Option (Int):=
 bd (QH a0 (⟨#[114,117,108,101]⟩:Bt)) fun I=>
 bd (lp (σ:=Int×Int) (β:=(Int)) (fun G=>
(if(decide (G.1<((I.length:Nat):Int)))=true then
 gd ((0:Int)<=G.1∧G.1<((I.length:Nat):Int))<|
 gd ((0:Int)<=1∧1<(((I.getD G.1.toNat default).length:Nat):Int))<|
(if(((I.getD G.1.toNat default).getD 1 default)==J)=true then
 some (.inl (IntKind.i64.wrap (G.1+1),IntKind.i64.wrap (G.2+1)))
else
 some (.inl (IntKind.i64.wrap (G.1+1),G.2)))
else
 some (.inr G.2))) (0,0)) fun O=>
 some O
theorem Qg8 {a0:(List Bt)} {Y:Bt} {r:Int} (h:QbT a0 Y=some r):PureC prog 111 [.d (slD encSb a0),.d (.str Y)] (dI r) []:=by
 refine pY tOk f111 rfl (Qc tOk (bE h [] 1000 (fun _=>Z2) fun J h=>?_));obtain⟨x5,I,h⟩:=Qb h;refine QF tOk I (fun U=>⟨0,24,[(1,.d (.str Y)),(5,dI U.2),(9,.osl 6001 0 J.length),(10,dI ((J.length:Nat):Int)),(11,dI U.1)],[],[(6001,.arr 23 1 J.length (rows (Qfk encSb) J))],[]⟩) ?_ ?_
 ·exact leX []
 ·clear I;intro U y3 G O;refine Qc tOk ?_;apply Qo G<;>intro _ G
  ·refine Qc tOk (gdI G fun G=>gdI G fun G=>?_);apply Qo G<;>intro _ G
   ·exact eX G []
   ·exact eX G []
  ·cases G
   cases O _ rfl
   cases h
   exact lfP []
def Zi (a0:(List Bt)) (I:(List Bt)):Option (Bool):=
 gd ((0:Int)<=1∧1<((a0.length:Nat):Int))<|
 bd (QbT I (a0.getD 1 default)) fun G=>
 some (decide (G>12))
theorem Qhp {a0:(List Bt)} {I:(List Bt)} {r:Bool} (h:Zi a0 I=some r):PureC prog 112 [.d (slD encSb a0),.rp [slD encSb I]] (dB r) []:=by
 refine pY tOk f112 rfl ?_;obtain⟨O,h⟩:=Qf h;obtain⟨J,G,h⟩:=Qb h;refine QW tOk [.u 4 0 (dI J) []] 7 [] [0,0,2,6,15,31,63] [] (aI O (aI (QN (Qg8 G) (by kernel_rfl)) (aK ?_)));cases h;exact lfP []
def Zv (a0:(List (List Bt))) (G:(List Bt)):Option (Int):=
 bd (lp (σ:=Int) (β:=(Int⊕Unit)) (fun s1=>
(if(decide (s1<((a0.length:Nat):Int)))=true then
 gd ((0:Int)<=s1∧s1<((a0.length:Nat):Int))<|
 bd (Zi (a0.getD s1.toNat default) G) fun I=>
(if I=true then
 some (.inr (.inl s1))
else
 some (.inl (IntKind.i64.wrap (s1+1))))
else
 some (.inr (.inr ())))) 0) fun O=>
(match O with
| .inl J=>
 some J
| .inr d8=>
 some (-1))
theorem J8 {a0:(List (List Bt))} {I:(List Bt)} {r:Int} (h:Zv a0 I=some r):PureC prog 157 [.d (slD (Qfk encSb) a0),.fn 112 [.rp [slD encSb I]]] (dI r) []:=by
 refine pY tOk f157 rfl (Qc tOk ?_);obtain⟨x4,J,h⟩:=Qb h;refine QF tOk J (fun s1=>⟨0,19,[(0,.d (slD (Qfk encSb) a0)),(1,.fn 112 [.rp [slD encSb I]]),(7,dI ((a0.length:Nat):Int)),(8,dI s1)],[],[],[]⟩) ?_ ?_
 ·exact leX []
 ·clear J;intro s1 y2 G O;refine Qc tOk ?_;apply Qo G<;>intro _ G
  ·refine Qc tOk (gdI G fun G=>bC G 0 (fun _=>Qhp) fun x6 G=>?_);apply Qo G<;>intro _ G
   ·cases G
    cases O _ rfl
    cases h
    exact lfP []
   ·exact eX G []
  ·cases G
   cases O _ rfl
   cases h
   exact lfP []
def QK (a0:(List (List Bt))) (G:(List Bt)):Option (Bool):=
 bd (Zv a0 G) fun I=>
 some (decide (I>=0))
theorem JL {a0:(List (List Bt))} {G:(List Bt)} {r:Bool} (h:QK a0 G=some r):PureC prog 108 [.d (slD (Qfk encSb) a0),.fn 112 [.rp [slD encSb G]]] (dB r) []:=by
 refine pY tOk f108 rfl (bC h 0 (fun _=>J8) fun x1 h=>?_);cases h;exact lfP []
def QbF (a0:(List Bt)):Option (Bool):=
 bd (QH a0 (⟨#[112,111,114,116]⟩:Bt)) fun I=>
 bd (lp (σ:=Int) (β:=(Unit⊕Unit)) (fun G=>
(if(decide (G<((I.length:Nat):Int)))=true then
 gd ((0:Int)<=G∧G<((I.length:Nat):Int))<|
 gd ((decide ((((I.getD G.toNat default).length:Nat):Int)>4))=true->((0:Int)<=4∧4<(((I.getD G.toNat default).length:Nat):Int)))<|
 bd (gcall ((decide ((((I.getD G.toNat default).length:Nat):Int)>4))=true) (QbT a0 ((I.getD G.toNat default).getD 4 default))) fun Y=>
(if((decide ((((I.getD G.toNat default).length:Nat):Int)>4))&&(Y==0))=true then
 some (.inr (.inl ()))
else
 some (.inl (IntKind.i64.wrap (G+1))))
else
 some (.inr (.inr ())))) 0) fun U=>
(match U with
| .inl d9=>
 some true
| .inr d10=>
 bd (QH a0 (⟨#[114,117,108,101]⟩:Bt)) fun O=>
 bd (QK O a0) fun J=>
 some J)
theorem QiR {a0:(List Bt)} {r:Bool} (h:QbF a0=some r):PureC prog 53 [.d (slD encSb a0)] (dB r) []:=by
 refine pY tOk f53 rfl (Qc tOk (bE h [] 1000 (fun _=>Z2) fun O h=>?_));obtain⟨x5,J,h⟩:=Qb h;refine QF tOk J (fun Y=>⟨0,28,[(1,.ref 1 0 0),(6,.osl 6001 0 O.length),(7,dI ((O.length:Nat):Int)),(8,dI Y)],[],[(6001,.arr 23 1 O.length (rows (Qfk encSb) O)),(1,.box 23 [.d (slD encSb a0)])],[]⟩) ?_ ?_
 ·exact leX []
 ·clear J;intro Y y3 G I;refine Qc tOk ?_;apply Qo G<;>intro _ G
  ·refine Qc tOk (gdI G fun G=>?_);obtain⟨g7,G⟩:=Qf G;obtain⟨x8,U,G⟩:=Qb G;refine QW tOk [.u 8 0 (dI x8) []] 11 [] [0,1,3,7,15,15,47,111,255,511,1023] [] (aI g7 (aI (Qw rfl rfl rfl rfl (by intro c0;exact Qg8 (Qn U c0))) (aK ?_)));apply Qo G<;>intro _ G
   ·cases G
    cases I _ rfl
    cases h
    exact lfP []
   ·exact eX G []
  ·cases G
   cases I _ rfl
   refine bE h [] 2000 (fun _=>Z2) fun x11 h=>bC h 0 (fun _=>JL) fun x12 h=>?_;cases h;exact lfP []
def JZ (a0:(List Bt)):Option ((List QAx)):=
 bd (QH a0 (⟨#[112,111,114,116]⟩:Bt)) fun I=>
 bd (lp (σ:=List QAx×Int) (β:=(Nat×(List QAx))) (fun G=>
(if(decide (G.2<((I.length:Nat):Int)))=true then
 gd ((0:Int)<=G.2∧G.2<((I.length:Nat):Int))<|
 gd ((0:Int)<=2∧2<(((I.getD G.2.toNat default).length:Nat):Int))<|
 bd (JX ((I.getD G.2.toNat default).getD 2 default)) fun J=>
 gd (((G.1.length)+(([J.1]:List QAx).length))*(16+1)<=70368744177664)<|
 some (.inl ((G.1++([J.1]:List QAx)),IntKind.i64.wrap (G.2+1)))
else
 some (.inr (G.1.length,G.1)))) (([]:List QAx),0)) fun O=>
 some O.2
theorem Qee {a0:(List Bt)} {r:(List QAx)} (h:JZ a0=some r):PureC prog 113 [.d (slD encSb a0)] (.osl 5001 0 r.length) [⟨5001,122,2,r.length,rows QAx.enc r⟩]:=by
 refine pY tOk f113 rfl (Qc tOk (bE h [] 1000 (fun _=>Z2) fun O h=>?_));obtain⟨x5,J,h⟩:=Qb h;refine QF tOk J (fun I=>⟨0,29,[(3,.osl 7001 0 I.1.length),(10,.osl 6001 0 O.length),(11,dI ((O.length:Nat):Int)),(12,dI I.2)],[],[(7001,.arr 122 2 I.1.length (rows QAx.enc I.1)),(6001,.arr 23 1 O.length (rows (Qfk encSb) O))],[]⟩) ?_ ?_
 ·exact leX [.k [7001],.p 7001 122 2 (rows QAx.enc ([]:List QAx))]
 ·clear J;intro I y3 G U;refine Qc tOk ?_;apply Qo G<;>intro _ G
  ·refine Qc tOk (gdI G fun G=>gdI G fun G=>bC G 0 (fun _=>Qed) fun Y G=>QbB (enc:=QAx.enc) ([Y.1]:List QAx) (gdI G fun G=>Qf7 (enc:=QAx.enc) (xs:=I.1) (ys:=([Y.1]:List QAx)) ?_));exact eX G []
  ·cases G
   cases U _ rfl
   cases h
   exact lfP [.s [(5001,7001),(7001,5001)]]
def Qbm (a0:QAx):Option (Int):=
 bd (ZT a0) fun G=>
 some (IntKind.i64.wrap ((IntKind.i64.wrap (a0.Addr+G)) -1))
theorem Qge {a0:QAx} {r:Int} (h:Qbm a0=some r):PureC prog 161 [.agg [dI a0.Addr,dI a0.Len]] (dI r) []:=by
 refine pY tOk f161 rfl ?_;obtain⟨I,G,h⟩:=Qb h;refine QW tOk [.u 3 0 (dI I) []] 7 [] [0,1,0,4,15,31,63] [] (aI (QN (Qdz G) (by kernel_rfl)) (aK ?_));cases h;exact lfP []
def ZB (a0:QAx) (J:Int):Option (Bool):=
 bd (Qbm a0) fun G=>
 bd (Qs J a0.Addr G) fun I=>
 some I
theorem Qau {a0:QAx} {J:Int} {r:Bool} (h:ZB a0 J=some r):PureC prog 119 [.agg [dI a0.Addr,dI a0.Len],dI J] (dB r) []:=by
 refine pY tOk f119 rfl ?_;obtain⟨O,G,h⟩:=Qb h;obtain⟨U,I,h⟩:=Qb h;refine QW tOk [.u 4 0 (dI O) [],.u 5 0 (dB U) []] 7 [] [0,0,2,0,8,31,63] [] (aI (QN (Qge G) (by kernel_rfl)) (aI (QN (QX I) (by kernel_rfl)) (aK ?_)));cases h;exact lfP []
def J0 (a0:QAx) (G:QAx):Option (Bool):=
 bd (gcall ((decide (G.Len<=a0.Len))=true) (ZB G a0.Addr)) fun I=>
 some ((decide (G.Len<=a0.Len))&&I)
theorem Qef {a0:QAx} {G:QAx} {r:Bool} (h:J0 a0 G=some r):PureC prog 114 [.agg [dI a0.Addr,dI a0.Len],.agg [dI G.Addr,dI G.Len]] (dB r) []:=by
 refine pY tOk f114 rfl (bG h (fun _=>Qau) fun x1 h=>?_);cases h;exact lfP []
def QaN (a0:(List Bt)):Option (Bool):=
 bd (JZ a0) fun I=>
 bd (lp (σ:=Int) (β:=(Unit⊕Unit)) (fun G=>
(if(decide (G<((I.length:Nat):Int)))=true then
 gd ((0:Int)<=G∧G<((I.length:Nat):Int))<|
 gd ((0:Int)<=(0:Int)∧(0:Int)<=G∧G<=((I.length:Nat):Int))<|
 bd (lp (σ:=Int) (β:=(Unit⊕Unit)) (fun J=>
(if(decide (J<((G.toNat:Nat):Int)))=true then
 gd ((0:Int)<=J∧J<((G.toNat:Nat):Int))<|
 bd (J0 (I.getD G.toNat default) (I.getD J.toNat default)) fun O=>
 bd (gcall (O=false) (J0 (I.getD J.toNat default) (I.getD G.toNat default))) fun U=>
(if(O||U)=true then
 some (.inr (.inl ()))
else
 some (.inl (IntKind.i64.wrap (J+1))))
else
 some (.inr (.inr ())))) 0) fun Y=>
(match Y with
| .inl d15=>
 some (.inr (.inl ()))
| .inr d16=>
 some (.inl (IntKind.i64.wrap (G+1))))
else
 some (.inr (.inr ())))) 0) fun x5=>
(match x5 with
| .inl d17=>
 some true
| .inr d18=>
 some false)
theorem Qhq {a0:(List Bt)} {r:Bool} (h:QaN a0=some r):PureC prog 54 [.d (slD encSb a0)] (dB r) []:=by
 refine pY tOk f54 rfl (bC h 1000 (fun _=>Qee) fun I h=>Qc tOk ?_);obtain⟨x5,a2,h⟩:=Qb h;refine QF tOk a2 (fun U=>⟨0,35,[(3,.osl 6001 0 I.length),(10,.osl 6001 0 I.length),(11,dI ((I.length:Nat):Int)),(12,dI U)],[],[(6001,.arr 122 2 I.length (rows QAx.enc I))],[]⟩) ?_ ?_
 ·exact leX []
 ·clear a2;intro U y3 J a1;refine Qc tOk ?_;apply Qo J<;>intro _ J
  ·refine Qc tOk (gdI J fun J=>?_);obtain⟨g7,J⟩:=Qf J;refine aI g7 ?_;obtain⟨x11,O,J⟩:=Qb J;refine QF tOk O (fun s8=>⟨0,35,[(3,.osl 6001 0 I.length),(5,.ref 5 0 0),(10,.osl 6001 0 I.length),(11,dI ((I.length:Nat):Int)),(12,dI U),(19,.osl 6001 0 U.toNat),(20,dI ((U.toNat:Nat):Int)),(21,dI s8)],[],[(5,.box 122 [dI ((I.getD U.toNat default).Addr),dI ((I.getD U.toNat default).Len)]),(6001,.arr 122 2 I.length (rows QAx.enc I))],[]⟩) ?_ ?_
   ·exact leX []
   ·clear O;intro s8 y9 G Y;refine Qc tOk ?_;apply Qo G<;>intro _ G
    ·refine Qc tOk (gdI G fun G=>bC G 0 (fun _=>Qef) fun x13 G=>bG G (fun _=>Qef) fun x14 G=>?_);apply Qo G<;>intro _ G
     ·cases G
      cases Y _ rfl
      cases J
      cases a1 _ rfl
      cases h
      exact lfP []
     ·exact eX G []
    ·cases G
     cases Y _ rfl
     exact eX J []
  ·cases J
   cases a1 _ rfl
   cases h
   exact lfP []
def Zr (a0:QAx) (G:Int):Option (Bool):=
 bd (ZB a0 G) fun I=>
 some (I&&(a0.Addr !=G))
theorem Qgf {a0:QAx} {G:Int} {r:Bool} (h:Zr a0 G=some r):PureC prog 118 [.agg [dI a0.Addr,dI a0.Len],.rp [.int .i64 G]] (dB r) []:=by
 refine pY tOk f118 rfl (bC h 0 (fun _=>Qau) fun x1 h=>?_);cases h;exact lfP []
def Zg (a0:(List QAx)) (G:Int):Option (Int):=
 bd (lp (σ:=Int) (β:=(Int⊕Unit)) (fun s1=>
(if(decide (s1<((a0.length:Nat):Int)))=true then
 gd ((0:Int)<=s1∧s1<((a0.length:Nat):Int))<|
 bd (Zr (a0.getD s1.toNat default) G) fun I=>
(if I=true then
 some (.inr (.inl s1))
else
 some (.inl (IntKind.i64.wrap (s1+1))))
else
 some (.inr (.inr ())))) 0) fun O=>
(match O with
| .inl J=>
 some J
| .inr d8=>
 some (-1))
theorem Jn {a0:(List QAx)} {I:Int} {r:Int} (h:Zg a0 I=some r):PureC prog 160 [.d (slD QAx.enc a0),.fn 118 [.rp [.int .i64 I]]] (dI r) []:=by
 refine pY tOk f160 rfl (Qc tOk ?_);obtain⟨x4,J,h⟩:=Qb h;refine QF tOk J (fun s1=>⟨0,19,[(0,.d (slD QAx.enc a0)),(1,.fn 118 [.rp [.int .i64 I]]),(7,dI ((a0.length:Nat):Int)),(8,dI s1)],[],[],[]⟩) ?_ ?_
 ·exact leX []
 ·clear J;intro s1 y2 G O;refine Qc tOk ?_;apply Qo G<;>intro _ G
  ·refine Qc tOk (gdI G fun G=>bC G 0 (fun _=>Qgf) fun x6 G=>?_);apply Qo G<;>intro _ G
   ·cases G
    cases O _ rfl
    cases h
    exact lfP []
   ·exact eX G []
  ·cases G
   cases O _ rfl
   cases h
   exact lfP []
def Qz (a0:(List QAx)) (G:Int):Option (Bool):=
 bd (Zg a0 G) fun I=>
 some (decide (I>=0))
theorem Je {a0:(List QAx)} {G:Int} {r:Bool} (h:Qz a0 G=some r):PureC prog 117 [.d (slD QAx.enc a0),.fn 118 [.rp [.int .i64 G]]] (dB r) []:=by
 refine pY tOk f117 rfl (bC h 0 (fun _=>Jn) fun x1 h=>?_);cases h;exact lfP []
def ZR (a0:Bt) (J:(List QAx)):Option (Bool):=
 bd (JR a0) fun G=>
 bd (Qz J G) fun I=>
 some (!I)
theorem Qhr {a0:Bt} {G:(List QAx)} {r:Bool} (h:ZR a0 G=some r):PureC prog 115 [.d (.str a0),.rp [slD QAx.enc G]] (dB r) []:=by
 refine pY tOk f115 rfl (bC h 0 (fun _=>QbS) fun x1 h=>bC h 0 (fun _=>Je) fun x2 h=>?_);cases h;exact lfP []
def Zw (a0:(List Bt)) (G:(List QAx)):Option (Int):=
 bd (lp (σ:=Int) (β:=(Int⊕Unit)) (fun s1=>
(if(decide (s1<((a0.length:Nat):Int)))=true then
 gd ((0:Int)<=s1∧s1<((a0.length:Nat):Int))<|
 bd (ZR (a0.getD s1.toNat default) G) fun I=>
(if I=true then
 some (.inr (.inl s1))
else
 some (.inl (IntKind.i64.wrap (s1+1))))
else
 some (.inr (.inr ())))) 0) fun O=>
(match O with
| .inl J=>
 some J
| .inr d8=>
 some (-1))
theorem J9 {a0:(List Bt)} {I:(List QAx)} {r:Int} (h:Zw a0 I=some r):PureC prog 153 [.d (slD encSb a0),.fn 115 [.rp [slD QAx.enc I]]] (dI r) []:=by
 refine pY tOk f153 rfl (Qc tOk ?_);obtain⟨x4,J,h⟩:=Qb h;refine QF tOk J (fun s1=>⟨0,19,[(0,.d (slD encSb a0)),(1,.fn 115 [.rp [slD QAx.enc I]]),(7,dI ((a0.length:Nat):Int)),(8,dI s1)],[],[],[]⟩) ?_ ?_
 ·exact leX []
 ·clear J;intro s1 y2 G O;refine Qc tOk ?_;apply Qo G<;>intro _ G
  ·refine Qc tOk (gdI G fun G=>bC G 0 (fun _=>Qhr) fun x6 G=>?_);apply Qo G<;>intro _ G
   ·cases G
    cases O _ rfl
    cases h
    exact lfP []
   ·exact eX G []
  ·cases G
   cases O _ rfl
   cases h
   exact lfP []
def QL (a0:(List Bt)) (G:(List QAx)):Option (Bool):=
 bd (Zw a0 G) fun I=>
 some (decide (I>=0))
theorem JM {a0:(List Bt)} {G:(List QAx)} {r:Bool} (h:QL a0 G=some r):PureC prog 104 [.d (slD encSb a0),.fn 115 [.rp [slD QAx.enc G]]] (dB r) []:=by
 refine pY tOk f104 rfl (bC h 0 (fun _=>J9) fun x1 h=>?_);cases h;exact lfP []
def QbG (a0:(List Bt)):Option (Bool):=
 bd (QH a0 (⟨#[114,111,117,116,101]⟩:Bt)) fun O=>
 bd (lp (σ:=List Bt×Int) (β:=(Nat×(List Bt))) (fun J=>
(if(decide (J.2<((O.length:Nat):Int)))=true then
 gd ((0:Int)<=J.2∧J.2<((O.length:Nat):Int))<|
 gd ((0:Int)<=2∧2<(((O.getD J.2.toNat default).length:Nat):Int))<|
 gd (((J.1.length)+(([((O.getD J.2.toNat default).getD 2 default)]:List Bt).length))*(16+1)<=70368744177664)<|
 some (.inl ((J.1++([((O.getD J.2.toNat default).getD 2 default)]:List Bt)),IntKind.i64.wrap (J.2+1)))
else
 some (.inr (J.1.length,J.1)))) (([]:List Bt),0)) fun x5=>
 bd (QH a0 (⟨#[112,101,101,114]⟩:Bt)) fun I=>
 bd (lp (σ:=List Bt×Int) (β:=(Nat×(List Bt))) (fun G=>
(if(decide (G.2<((I.length:Nat):Int)))=true then
 gd ((0:Int)<=G.2∧G.2<((I.length:Nat):Int))<|
 gd ((0:Int)<=1∧1<(((I.getD G.2.toNat default).length:Nat):Int))<|
 gd (((G.1.length)+(([((I.getD G.2.toNat default).getD 1 default)]:List Bt).length))*(16+1)<=70368744177664)<|
 some (.inl ((G.1++([((I.getD G.2.toNat default).getD 1 default)]:List Bt)),IntKind.i64.wrap (G.2+1)))
else
 some (.inr (G.1.length,G.1)))) (x5.2,0)) fun a1=>
 bd (JZ a0) fun Y=>
 bd (QL a1.2 Y) fun U=>
 some U
theorem QiS {a0:(List Bt)} {r:Bool} (h:QbG a0=some r):PureC prog 55 [.d (slD encSb a0)] (dB r) []:=by
 refine pY tOk f55 rfl (Qc tOk (bE h [] 1000 (fun _=>Z2) fun x1 h=>?_));obtain⟨x5,a3,h⟩:=Qb h;refine QF tOk a3 (fun U=>⟨0,43,[(0,.d (slD encSb a0)),(3,.osl 7001 0 U.1.length),(11,.osl 6001 0 x1.length),(12,dI ((x1.length:Nat):Int)),(13,dI U.2)],[],[(7001,.arr 9 1 U.1.length (rows encSb U.1)),(6001,.arr 23 1 x1.length (rows (Qfk encSb) x1))],[]⟩) ?_ ?_
 ·exact leX [.k [7001],.p 7001 9 1 (rows encSb ([]:List Bt))]
 ·clear a3;intro U y3 O a4;refine Qc tOk ?_;apply Qo O<;>intro _ O
  ·refine Qc tOk (gdI O fun O=>gdI O fun O=>QbB (enc:=encSb) ([((x1.getD U.2.toNat default).getD 2 default)]:List Bt) (gdI O fun O=>Qf7 (enc:=encSb) (xs:=U.1) (ys:=([((x1.getD U.2.toNat default).getD 2 default)]:List Bt)) ?_));exact eX O []
  ·cases O
   cases a4 _ rfl
   refine Qc tOk (bE h [] 3000 (fun _=>Z2) fun J h=>?_);obtain⟨x14,Y,h⟩:=Qb h;refine QF tOk Y (fun I=>⟨0,43,[(0,.d (slD encSb a0)),(3,.osl 7001 0 I.1.length),(25,.osl 8001 0 J.length),(26,dI ((J.length:Nat):Int)),(27,dI I.2)],[],[(8001,.arr 23 1 J.length (rows (Qfk encSb) J)),(7001,.arr 9 1 I.1.length (rows encSb I.1))],[]⟩) ?_ ?_
   ·exact leX []
   ·clear Y;intro I y12 G a1;refine Qc tOk ?_;apply Qo G<;>intro _ G
    ·refine Qc tOk (gdI G fun G=>gdI G fun G=>QbB (enc:=encSb) ([((J.getD I.2.toNat default).getD 1 default)]:List Bt) (gdI G fun G=>Qf7 (enc:=encSb) (xs:=I.1) (ys:=([((J.getD I.2.toNat default).getD 1 default)]:List Bt)) ?_));exact eX G []
    ·cases G
     cases a1 _ rfl
     refine bC h 1000 (fun _=>Qee) fun x19 h=>?_;obtain⟨x20,a2,h⟩:=Qb h;refine QwV 0 (JM a2) rfl QsG rfl ?_;cases h;exact lfP []
def QcI (a0:(List Bt)):Option (Bool):=
 bd (QH a0 (⟨#[110,97,116]⟩:Bt)) fun O=>
 bd (QH a0 (⟨#[100,111,111,114]⟩:Bt)) fun I=>
(if(((O.length:Nat):Int)==0)=true then
 some (decide (((I.length:Nat):Int)>0))
else
 gd ((0:Int)<=0∧0<((O.length:Nat):Int))<|
 gd ((0:Int)<=1∧1<(((O.getD 0 default).length:Nat):Int))<|
 bd (JX ((O.getD 0 default).getD 1 default)) fun x5=>
 gd ((0:Int)<=0∧0<((O.length:Nat):Int))<|
 gd ((0:Int)<=3∧3<(((O.getD 0 default).length:Nat):Int))<|
 bd (QaL ((O.getD 0 default).getD 3 default)) fun x8=>
 gd ((0:Int)<=0∧0<((O.length:Nat):Int))<|
 gd ((0:Int)<=4∧4<(((O.getD 0 default).length:Nat):Int))<|
 bd (QaL ((O.getD 0 default).getD 4 default)) fun Y=>
 gd ((0:Int)<=0∧0<((O.length:Nat):Int))<|
 gd ((0:Int)<=2∧2<(((O.getD 0 default).length:Nat):Int))<|
 bd (JR ((O.getD 0 default).getD 2 default)) fun a3=>
 bd (ZB x5.1 a3) fun a5=>
(if((a5||(decide (x8>Y)))||(decide (((I.length:Nat):Int)>6)))=true then
 some true
else
 bd (lp (σ:=Int) (β:=(Unit⊕Unit)) (fun G=>
(if(decide (G<((I.length:Nat):Int)))=true then
 gd ((0:Int)<=G∧G<((I.length:Nat):Int))<|
 gd ((0:Int)<=3∧3<(((I.getD G.toNat default).length:Nat):Int))<|
 bd (JR ((I.getD G.toNat default).getD 3 default)) fun a1=>
 bd (ZB x5.1 a1) fun U=>
 gd ((!U)=false->((0:Int)<=2∧2<(((I.getD G.toNat default).length:Nat):Int)))<|
 bd (gcall ((!U)=false) (QaL ((I.getD G.toNat default).getD 2 default))) fun a4=>
 bd (gcall ((!U)=false) (Qs a4 x8 Y)) fun a2=>
(if((!U)||a2)=true then
 some (.inr (.inl ()))
else
 gd ((0:Int)<=(0:Int)∧(0:Int)<=G∧G<=((I.length:Nat):Int))<|
 bd (lp (σ:=Int) (β:=(Unit⊕Unit)) (fun J=>
(if(decide (J<((G.toNat:Nat):Int)))=true then
 gd ((0:Int)<=J∧J<((G.toNat:Nat):Int))<|
 gd ((0:Int)<=1∧1<(((I.getD J.toNat default).length:Nat):Int))<|
 gd ((0:Int)<=1∧1<(((I.getD G.toNat default).length:Nat):Int))<|
 gd ((((I.getD J.toNat default).getD 1 default)==((I.getD G.toNat default).getD 1 default))=true->((0:Int)<=3∧3<(((I.getD J.toNat default).length:Nat):Int)))<|
 gd ((((I.getD J.toNat default).getD 1 default)==((I.getD G.toNat default).getD 1 default))=true->((0:Int)<=3∧3<(((I.getD G.toNat default).length:Nat):Int)))<|
 gd (((((I.getD J.toNat default).getD 1 default)==((I.getD G.toNat default).getD 1 default))&&(((I.getD J.toNat default).getD 3 default)==((I.getD G.toNat default).getD 3 default)))=true->((0:Int)<=4∧4<(((I.getD J.toNat default).length:Nat):Int)))<|
 gd (((((I.getD J.toNat default).getD 1 default)==((I.getD G.toNat default).getD 1 default))&&(((I.getD J.toNat default).getD 3 default)==((I.getD G.toNat default).getD 3 default)))=true->((0:Int)<=4∧4<(((I.getD G.toNat default).length:Nat):Int)))<|
(if(((((I.getD J.toNat default).getD 1 default)==((I.getD G.toNat default).getD 1 default))&&(((I.getD J.toNat default).getD 3 default)==((I.getD G.toNat default).getD 3 default)))&&(((I.getD J.toNat default).getD 4 default)==((I.getD G.toNat default).getD 4 default)))=true then
 some (.inr (.inl ()))
else
 some (.inl (IntKind.i64.wrap (J+1))))
else
 some (.inr (.inr ())))) 0) fun a6=>
(match a6 with
| .inl d39=>
 some (.inr (.inl ()))
| .inr d40=>
 some (.inl (IntKind.i64.wrap (G+1)))))
else
 some (.inr (.inr ())))) 0) fun a7=>
(match a7 with
| .inl d41=>
 some true
| .inr d42=>
 some false)))
theorem QkO {a0:(List Bt)} {r:Bool} (h:QcI a0=some r):PureC prog 56 [.d (slD encSb a0)] (dB r) []:=by
 refine pY tOk f56 rfl (bE h [] 1000 (fun _=>Z2) fun x1 h=>bE h [] 2000 (fun _=>Z2) fun O h=>Qc tOk ?_);apply Qo h<;>intro _ h
 ·cases h
  exact lfP []
 ·refine gdI h fun h=>gdI h fun h=>bC h 0 (fun _=>Qed) fun x5 h=>?_;obtain⟨g6,h⟩:=Qf h;obtain⟨g7,h⟩:=Qf h;obtain⟨x8,c3,h⟩:=Qb h;obtain⟨g9,h⟩:=Qf h;obtain⟨d1,h⟩:=Qf h;obtain⟨a3,a5,h⟩:=Qb h;refine QW tOk [.u 5 0 (dI x8) [],.u 11 0 (dI a3) []] 14 [] [0,1,3,7,15,31,0,64,192,448,960,2047,4095,8191] [] (aI g6 (aI g7 (aI (QN (Qd1 c3) (by kernel_rfl)) (aI g9 (aI d1 (aI (QN (Qd1 a5) (by kernel_rfl)) (aK (Qc tOk ?_))))))));obtain⟨b5,h⟩:=Qf h;obtain⟨d0,h⟩:=Qf h;obtain⟨c1,b3,h⟩:=Qb h;obtain⟨c5,a4,h⟩:=Qb h;refine QW tOk [.u 6 0 (dI c1) [],.u 7 0 (dB c5) []] 18 [] [0,0,2,6,14,30,62,127,255,511,511,2047,4095,8191,16383,32767,65535,131071] [] (aI b5 (aI d0 (aI (QN (QbS b3) (by kernel_rfl)) (aI (QN (Qau a4) (by kernel_rfl)) (aK ?_)))));apply Qo h<;>intro _ h
  ·cases h
   exact lfP []
  ·refine Qc tOk ?_;obtain⟨x19,a2,h⟩:=Qb h;refine QF tOk a2 (fun J=>⟨0,120,[(4,.osl 7001 0 O.length),(5,.ref 5 0 0),(7,dI x8),(8,dI a3),(62,.osl 7001 0 O.length),(63,dI ((O.length:Nat):Int)),(64,dI J)],[],[(5,.box 122 [dI x5.1.Addr,dI x5.1.Len]),(7001,.arr 23 1 O.length (rows (Qfk encSb) O))],[]⟩) ?_ ?_
   ·exact leX []
   ·clear a2;intro J y17 G U;refine Qc tOk ?_;apply Qo G<;>intro _ G
    ·refine Qc tOk (gdI G fun G=>Qc tOk ?_);obtain⟨b8,G⟩:=Qf G;obtain⟨b4,a7,G⟩:=Qb G;obtain⟨c6,b2,G⟩:=Qb G;obtain⟨b9,G⟩:=Qf G;obtain⟨c4,a6,G⟩:=Qb G;obtain⟨b7,a9,G⟩:=Qb G;refine QW tOk [.u 4 0 (dI b4) [],.u 5 0 (dB c6) [],.u 11 0 (dI c4) [],.u 14 0 (dB b7) []] 16 [] [0,0,2,6,14,31,63,127,255,511,1023,2047,255,255,16383,32767] [] (aI b8 (aI (QN (QbS a7) (by kernel_rfl)) (aI (QN (Qau b2) (by kernel_rfl)) (aI b9 (aI (Qw rfl rfl rfl rfl (by intro c0;exact Qd1 (Qn a6 c0))) (aI (Qw rfl rfl rfl rfl (by intro c0;exact QX (Qn a9 c0))) (aK ?_)))))));apply Qo G<;>intro _ G
     ·cases G
      obtain rfl:=U _ rfl;cases h;exact lfP []
     ·obtain⟨c8,G⟩:=Qf G;refine aI c8 ?_;obtain⟨x31,Y,G⟩:=Qb G;refine QF tOk Y (fun a8=>⟨0,120,[(4,.osl 7001 0 O.length),(5,.ref 5 0 0),(7,dI x8),(8,dI a3),(10,.d (slD encSb (O.getD J.toNat default))),(62,.osl 7001 0 O.length),(63,dI ((O.length:Nat):Int)),(64,dI J),(87,.osl 7001 0 J.toNat),(88,dI ((J.toNat:Nat):Int)),(89,dI a8)],[],[(5,.box 122 [dI x5.1.Addr,dI x5.1.Len]),(7001,.arr 23 1 O.length (rows (Qfk encSb) O))],[]⟩) ?_ ?_
      ·exact leX []
      ·clear Y;intro a8 y29 I a1;refine Qc tOk ?_;apply Qo I<;>intro _ I
       ·refine Qc tOk (gdI I fun I=>?_);obtain⟨d3,I⟩:=Qf I;obtain⟨b6,I⟩:=Qf I;obtain⟨c2,I⟩:=Qf I;obtain⟨c7,I⟩:=Qf I;obtain⟨c9,I⟩:=Qf I;obtain⟨d2,I⟩:=Qf I;refine QW tOk [] 25 [] [0,1,3,0,8,24,63,127,255,511,1023,255,2303,6399,16383,32767,65535,131071,262143,524287,131071,1179647,3276799,8388607,16777215] [] (aI d3 (aI b6 (aI c2 (aI c7 (aI c9 (aI d2 (aK ?_)))))));apply Qo I<;>intro _ I
        ·cases I
         cases a1 _ rfl
         cases G
         cases U _ rfl
         cases h
         exact lfP []
        ·exact eX I []
       ·cases I
        cases a1 _ rfl
        exact eX G []
    ·cases G
     cases U _ rfl
     cases h
     exact lfP []
def QiT (c:Fnv) (x:List Bt):Option Bool:=match c with
 | .k f=>if f=52 then Qdo x else if f=53 then QbF x else if f=54 then QaN x else if f=55 then QbG x else if f=56 then QcI x else none
 | .r f lo hi=>none
 | .w f ws=>none
theorem QwZ {c:Fnv} {x:List Bt} {r:Bool} (h:QiT c x=some r):PureC prog c.f ([.d (slD encSb x)]++c.caps.map .rp) (.d (.bool r)) []:=by
 cases c with
 |k f=>
  simp only[QiT] at h;split at h
  ·rename_i e;subst e;exact Ql6 h
  split at h
  ·rename_i e;subst e;exact QiR h
  split at h
  ·rename_i e;subst e;exact Qhq h
  split at h
  ·rename_i e;subst e;exact QiS h
  split at h
  ·rename_i e;subst e;exact QkO h
  cases h
 |r f lo hi=>
  simp only[QiT] at h;cases h
 |w f ws=>
  simp only[QiT] at h;cases h
def Jd (a0:(List Bt)):Option (Int):=
 bd (Js a0) fun I=>
(if(I !=0)=true then
 some I
else
 bd (lp (σ:=Int) (β:=(Int⊕Unit)) (fun G=>
(if(decide (G<((([(Fnv.k 52),(Fnv.k 53),(Fnv.k 54),(Fnv.k 55),(Fnv.k 56)]:List Fnv).length:Nat):Int)))=true then
 gd ((0:Int)<=G∧G<((([(Fnv.k 52),(Fnv.k 53),(Fnv.k 54),(Fnv.k 55),(Fnv.k 56)]:List Fnv).length:Nat):Int))<|
 bd (QiT (([(Fnv.k 52),(Fnv.k 53),(Fnv.k 54),(Fnv.k 55),(Fnv.k 56)]:List Fnv).getD G.toNat default) a0) fun J=>
(if J=true then
 some (.inr (.inl (IntKind.i64.wrap (5+G))))
else
 some (.inl (IntKind.i64.wrap (G+1))))
else
 some (.inr (.inr ())))) 0) fun U=>
(match U with
| .inl O=>
 some O
| .inr d9=>
 some 0))
theorem QdJ {a0:(List Bt)} {r:Int} (h:Jd a0=some r):PureC prog 24 [.d (slD encSb a0)] (dI r) []:=by
 refine pY tOk f24 rfl (Qc tOk (bC h 0 (fun _=>Qgd) fun x1 h=>?_));apply Qo h<;>intro _ h
 ·cases h
  exact lfP []
 ·refine Qc tOk (QbB (enc:=QbA) ([(Fnv.k 52),(Fnv.k 53),(Fnv.k 54),(Fnv.k 55),(Fnv.k 56)]:List Fnv) ?_);obtain⟨x5,J,h⟩:=Qb h;refine QF tOk J (fun U=>⟨0,24,[(0,.d (slD encSb a0)),(11,.osl 11 0 (([(Fnv.k 52),(Fnv.k 53),(Fnv.k 54),(Fnv.k 55),(Fnv.k 56)]:List Fnv).length)),(12,dI ((([(Fnv.k 52),(Fnv.k 53),(Fnv.k 54),(Fnv.k 55),(Fnv.k 56)]:List Fnv).length:Nat):Int)),(13,dI U)],[],[(11,.arr 81 1 (([(Fnv.k 52),(Fnv.k 53),(Fnv.k 54),(Fnv.k 55),(Fnv.k 56)]:List Fnv).length) (rows QbA ([(Fnv.k 52),(Fnv.k 53),(Fnv.k 54),(Fnv.k 55),(Fnv.k 56)]:List Fnv)))],[]⟩) ?_ ?_
  ·exact leX []
  ·clear J;intro U y3 G I;refine Qc tOk ?_;apply Qo G<;>intro _ G
   ·refine Qc tOk (gdI G fun G=>?_);obtain⟨x7,O,G⟩:=Qb G;refine cDy (QwZ O) ?_;apply Qo G<;>intro _ G
    ·cases G
     cases I _ rfl
     cases h
     exact lfP []
    ·exact eX G []
   ·cases G
    cases I _ rfl
    cases h
    exact lfP []
def Qbn (a0:(List Bt)):Option (Bool):=
 bd (Js a0) fun G=>
 some (G==0)
theorem Qeg {a0:(List Bt)} {r:Bool} (h:Qbn a0=some r):PureC prog 79 [.d (slD encSb a0)] (dB r) []:=by
 refine pY tOk f79 rfl (bC h 0 (fun _=>Qgd) fun x1 h=>?_);cases h;exact lfP []
def Jz (a0:QAv):Option (Bool):=
 bd (gcall ((((a0.Slots.length:Nat):Int) !=2)=false) (Qs a0.Live 0 1)) fun O=>
 bd (gcall (((((a0.Slots.length:Nat):Int) !=2)||(!O))=false) (Qs a0.Last 0 1000000)) fun x2=>
(if(((((a0.Slots.length:Nat):Int) !=2)||(!O))||(!x2))=true then
 some false
else
 bd (lp (σ:=Int) (β:=(Unit⊕Unit)) (fun G=>
(if(decide (G<((a0.Slots.length:Nat):Int)))=true then
 gd ((0:Int)<=G∧G<((a0.Slots.length:Nat):Int))<|
 bd (gcall ((a0.Slots.getD G.toNat default).Whole=true) (Qs ((a0.Slots.getD G.toNat default).Edition) 0 a0.Last)) fun J=>
 bd (gcall ((!J)=false∧(a0.Slots.getD G.toNat default).Whole=true) (Jd ((a0.Slots.getD G.toNat default).Lines))) fun Y=>
(if((a0.Slots.getD G.toNat default).Whole&&((!J)||(Y !=0)))=true then
 some (.inr (.inl ()))
else
 bd (gcall (((((a0.Slots.getD G.toNat default).Edition) !=0)||(a0.Slots.getD G.toNat default).Trial)=false∧(!((a0.Slots.getD G.toNat default).Whole))=true) (Qbn ((a0.Slots.getD G.toNat default).Lines))) fun I=>
(if((!((a0.Slots.getD G.toNat default).Whole))&&(((((a0.Slots.getD G.toNat default).Edition) !=0)||(a0.Slots.getD G.toNat default).Trial)||(!I)))=true then
 some (.inr (.inl ()))
else
 some (.inl (IntKind.i64.wrap (G+1)))))
else
 some (.inr (.inr ())))) 0) fun U=>
(match U with
| .inl d11=>
 some false
| .inr d12=>
 gd ((0:Int)<=a0.Live∧a0.Live<((a0.Slots.length:Nat):Int))<|
 gd ((0:Int)<=IntKind.i64.wrap (1-a0.Live)∧IntKind.i64.wrap (1-a0.Live)<((a0.Slots.length:Nat):Int))<|
(if(!((a0.Slots.getD a0.Live.toNat default).Whole))=true then
 some false
else
 some ((!((a0.Slots.getD a0.Live.toNat default).Trial))||((((((a0.Slots.getD a0.Live.toNat default).Edition)==a0.Last)&&(a0.Slots.getD ((IntKind.i64.wrap (1-a0.Live)).toNat) default).Whole)&&(!((a0.Slots.getD ((IntKind.i64.wrap (1-a0.Live)).toNat) default).Trial)))&&(decide (((a0.Slots.getD ((IntKind.i64.wrap (1-a0.Live)).toNat) default).Edition)<((a0.Slots.getD a0.Live.toNat default).Edition))))))))
theorem QeT {a0:QAv} {r:Bool} (h:Jz a0=some r):PureC prog 34 [.rp [.bool a0.Up,.int .i64 a0.Box.Edition,slD encSb a0.Box.Lines,.int .i64 a0.Box.Trial,slD encSb a0.Box.Back,slD QAr.enc a0.Box.Cands,slD QAu.enc a0.Slots,.int .i64 a0.Live,.int .i64 a0.Last,.int .i64 a0.Job.Kind,.int .i64 a0.Job.Step,.int .i64 a0.Job.Edition,.int .i64 a0.Job.Ticks,slD encSb a0.Job.Lines]] (dB r) []:=by
 refine pY tOk f34 rfl (Qc tOk (bG h (fun _=>QX) fun x1 h=>bG h (fun _=>QX) fun x2 h=>?_));apply Qo h<;>intro _ h
 ·cases h
  exact lfP []
 ·refine Qc tOk ?_;obtain⟨x6,J,h⟩:=Qb h;refine QF tOk J (fun s3=>⟨0,124,[(0,.rp [.bool a0.Up,.int .i64 a0.Box.Edition,slD encSb a0.Box.Lines,.int .i64 a0.Box.Trial,slD encSb a0.Box.Back,slD QAr.enc a0.Box.Cands,slD QAu.enc a0.Slots,.int .i64 a0.Live,.int .i64 a0.Last,.int .i64 a0.Job.Kind,.int .i64 a0.Job.Step,.int .i64 a0.Job.Edition,.int .i64 a0.Job.Ticks,slD encSb a0.Job.Lines]),(32,.d (slD QAu.enc a0.Slots)),(33,dI ((a0.Slots.length:Nat):Int)),(34,dI s3)],[],[],[]⟩) ?_ ?_
  ·exact leX []
  ·clear J;intro s3 y4 G I;refine Qc tOk ?_;apply Qo G<;>intro _ G
   ·refine Qc tOk (gdI G fun G=>Qc tOk ?_);obtain⟨x8,a3,G⟩:=Qb G;obtain⟨x9,a2,G⟩:=Qb G;refine QW tOk [.u 9 0 (dB x8) [],.u 14 0 (dI x9) []] 18 [] [0,1,3,7,15,7,39,103,231,511,1023,2047,4095,8191,16383,32767,65535,131071] [] (aI (Qw rfl rfl rfl rfl (by intro O;exact QX (Qn a3 O))) (aI (Qw rfl rfl rfl rfl (by intro O c1;exact QdJ (Qn a2 ⟨O,c1⟩))) (aK ?_)));apply Qo G<;>intro _ G
    ·cases G
     cases I _ rfl
     cases h
     exact lfP []
    ·obtain⟨x10,U,G⟩:=Qb G;refine cG (fun O c1=>Qeg (Qn U ⟨O,c1⟩)) ?_;apply Qo G<;>intro _ G
     ·cases G
      cases I _ rfl
      cases h
      exact lfP []
     ·exact eX G []
   ·cases G
    cases I _ rfl
    refine QkH tOk 20000 (fn:=f80) (c:=JW f80) rfl rfl (by kernel_rfl) rfl ?_;obtain⟨a1,h⟩:=Qf h;refine QW tOk [] 10 [] [0,1,3,7,0,16,48,112,255,511] [] (aI a1 (aK (QkH tOk 20000 (fn:=f81) (c:=JW f81) rfl rfl (by kernel_rfl) rfl ?_)));obtain⟨Y,h⟩:=Qf h;refine QW tOk [] 11 [] [0,1,3,7,0,16,48,112,240,511,1023] [] (aI Y (aK (Qc tOk ?_)));apply Qo h<;>intro _ h
    ·cases h
     exact lfP []
    ·refine QW tOk [] 41 [] [0,1,3,7,15,31,63,127,255,511,63,1087,3135,7231,16383,32767,65535,131071,262143,524287,1048575,2097151,4194303,8388607,16777215,33554431,67108863,134217727,268435455,536870911,1073741823,2147483647,4294967295,536870911,9126805503,26306674687,60666413055,137438953471,274877906943,549755813887,1099511627775] [] (aK ?_);cases h;exact lfP []
def Qx (a0:QAt) (G:Int):Option (Bool):=
 some (((((a0.Kind==G)&&(a0.Step==0))&&(a0.Edition==0))&&(a0.Ticks==0))&&(((a0.Lines.length:Nat):Int)==0))
theorem Jt {a0:QAt} {G:Int} {r:Bool} (h:Qx a0 G=some r):PureC prog 35 [.agg [dI a0.Kind,dI a0.Step,dI a0.Edition,dI a0.Ticks,.d (slD encSb a0.Lines)],dI G] (dB r) []:=by
 refine pY tOk f35 rfl ?_;unfold Qx at h;cases h;exact lfP []
def Jg (a0:QAs):Option (Bool):=
 bd (lp (σ:=Int) (β:=(Unit⊕Unit)) (fun s1=>
(if(decide (s1<((a0.Cands.length:Nat):Int)))=true then
 gd ((0:Int)<=s1∧s1<((a0.Cands.length:Nat):Int))<|
 bd (QbE ((a0.Cands.getD s1.toNat default).User)) fun G=>
 gd ((decide (s1>0))=true->((!G)=false->((0:Int)<=IntKind.i64.wrap (s1-1)∧IntKind.i64.wrap (s1-1)<((a0.Cands.length:Nat):Int))))<|
 bd (gcall (((!G)||((decide (s1>0))&&(!(bsl ((a0.Cands.getD ((IntKind.i64.wrap (s1-1)).toNat) default).User) ((a0.Cands.getD s1.toNat default).User)))))=false) (Qs ((a0.Cands.getD s1.toNat default).Base) 0 a0.Edition)) fun J=>
 bd (gcall ((((!G)||((decide (s1>0))&&(!(bsl ((a0.Cands.getD ((IntKind.i64.wrap (s1-1)).toNat) default).User) ((a0.Cands.getD s1.toNat default).User)))))||(!J))=false) (Qbn ((a0.Cands.getD s1.toNat default).From))) fun O=>
 bd (gcall (((((!G)||((decide (s1>0))&&(!(bsl ((a0.Cands.getD ((IntKind.i64.wrap (s1-1)).toNat) default).User) ((a0.Cands.getD s1.toNat default).User)))))||(!J))||(!O))=false) (Qbn ((a0.Cands.getD s1.toNat default).Lines))) fun I=>
(if(((((!G)||((decide (s1>0))&&(!(bsl ((a0.Cands.getD ((IntKind.i64.wrap (s1-1)).toNat) default).User) ((a0.Cands.getD s1.toNat default).User)))))||(!J))||(!O))||(!I))=true then
 some (.inr (.inl ()))
else
 some (.inl (IntKind.i64.wrap (s1+1))))
else
 some (.inr (.inr ())))) 0) fun U=>
(match U with
| .inl d11=>
 some false
| .inr d12=>
 some (decide (((a0.Cands.length:Nat):Int)<=3)))
theorem QfY {a0:QAs} {r:Bool} (h:Jg a0=some r):PureC prog 36 [.agg [dI a0.Edition,.d (slD encSb a0.Lines),dI a0.Trial,.d (slD encSb a0.Back),.d (slD QAr.enc a0.Cands)]] (dB r) []:=by
 refine pY tOk f36 rfl (Qc tOk ?_);obtain⟨x4,I,h⟩:=Qb h;refine QF tOk I (fun s1=>⟨0,58,[(1,.ref 1 0 0),(6,.d (slD QAr.enc a0.Cands)),(7,dI ((a0.Cands.length:Nat):Int)),(8,dI s1)],[],[(1,.box 29 [dI a0.Edition,.d (slD encSb a0.Lines),dI a0.Trial,.d (slD encSb a0.Back),.d (slD QAr.enc a0.Cands)])],[]⟩) ?_ ?_
 ·exact leX []
 ·clear I;intro s1 y2 G J;refine Qc tOk ?_;apply Qo G<;>intro _ G
  ·refine Qc tOk (gdI G fun G=>?_);obtain⟨x6,Y,G⟩:=Qb G;obtain⟨g7,G⟩:=Qf G;obtain⟨x8,a3,G⟩:=Qb G;obtain⟨x9,a2,G⟩:=Qb G;obtain⟨a1,U,G⟩:=Qb G;refine QW tOk [.u 2 0 (dB x6) [],.u 25 0 (dB x8) [],.u 31 0 (dB x9) [],.u 37 0 (dB a1) []] 40 [] [0,1,3,7,15,31,63,127,255,511,255,1279,4095,8191,16383,255,33023,131071,262143,524287,1048575,2097151,4194303,2097151,10485759,33554431,67108863,134217727,268435455,536870911,1073741823,2147483647,4294967295,8589934591,17179869183,34359738367,68719476735,137438953471,274877906943,549755813887] [] (aI (QN (Qh7 Y) (by kernel_rfl)) (aI g7 (aI (Qw rfl rfl rfl rfl (by intro O;exact QX (Qn a3 O))) (aI (Qw rfl rfl rfl rfl (by intro O;exact Qeg (Qn a2 O))) (aI (Qw rfl rfl rfl rfl (by intro O;exact Qeg (Qn U O))) (aK ?_))))));apply Qo G<;>intro _ G
   ·cases G
    cases J _ rfl
    cases h
    exact lfP []
   ·exact eX G []
  ·cases G
   cases J _ rfl
   cases h
   exact lfP []
def QM (a0:(List Bt)) (G:(List Bt)):Option (Bool):=
(if(((a0.length:Nat):Int) !=((G.length:Nat):Int))=true then
 some false
else
 bd (lp (σ:=Int) (β:=(Unit⊕Unit)) (fun s1=>
(if(decide (s1<((a0.length:Nat):Int)))=true then
 gd ((0:Int)<=s1∧s1<((a0.length:Nat):Int))<|
 gd ((0:Int)<=s1∧s1<((G.length:Nat):Int))<|
(if(!((a0.getD s1.toNat default)==(G.getD s1.toNat default)))=true then
 some (.inr (.inl ()))
else
 some (.inl (IntKind.i64.wrap (s1+1))))
else
 some (.inr (.inr ())))) 0) fun I=>
(match I with
| .inl d7=>
 some false
| .inr d8=>
 some true))
theorem Q9 {a0:(List Bt)} {O:(List Bt)} {r:Bool} (h:QM a0 O=some r):PureC prog 83 [.d (slD encSb a0),.d (slD encSb O)] (dB r) []:=by
 refine pY tOk f83 rfl (Qc tOk ?_);apply Qo h<;>intro _ h
 ·cases h
  exact lfP []
 ·refine Qc tOk ?_;obtain⟨x4,I,h⟩:=Qb h;refine QF tOk I (fun s1=>⟨0,26,[(0,.d (slD encSb a0)),(1,.d (slD encSb O)),(12,dI ((a0.length:Nat):Int)),(13,dI s1)],[],[],[]⟩) ?_ ?_
  ·exact leX []
  ·clear I;intro s1 y2 G J;refine Qc tOk ?_;apply Qo G<;>intro _ G
   ·refine Qc tOk ?_;obtain⟨Y,G⟩:=Qf G;obtain⟨U,G⟩:=Qf G;refine QW tOk [] 9 [] [0,0,3,7,0,0,48,112,255] [] (aI Y (aI U (aK ?_)));apply Qo G<;>intro _ G
    ·cases G
     cases J _ rfl
     cases h
     exact lfP []
    ·exact eX G []
   ·cases G
    cases J _ rfl
    cases h
    exact lfP []
def Qbo (a0:QAv):Option (QAu):=
 gd ((0:Int)<=a0.Live∧a0.Live<((a0.Slots.length:Nat):Int))<|
 some (a0.Slots.getD a0.Live.toNat default)
theorem Qgg {a0:QAv} {r:QAu} (h:Qbo a0=some r):EffC prog 80 [.rp [.bool a0.Up,.int .i64 a0.Box.Edition,slD encSb a0.Box.Lines,.int .i64 a0.Box.Trial,slD encSb a0.Box.Back,slD QAr.enc a0.Box.Cands,slD QAu.enc a0.Slots,.int .i64 a0.Live,.int .i64 a0.Last,.int .i64 a0.Job.Kind,.int .i64 a0.Job.Step,.int .i64 a0.Job.Edition,.int .i64 a0.Job.Ticks,slD encSb a0.Job.Lines]] [] (.rp [.bool r.Whole,.int .i64 r.Edition,.bool r.Trial,slD encSb r.Lines]) []:=by
 refine eY tOk f80 rfl ?_;obtain⟨G,h⟩:=Qf h;refine QW tOk [] 10 [] [0,1,3,7,0,16,48,112,255,511] [] (aI G (aK ?_));cases h;exact lfE []
def Jh (a0:QAv) (G:Int):Option (Bool):=
 bd (gcall ((G==a0.Last)=true∧(G==(IntKind.i64.wrap (a0.Last+1)))=false) (Qbo a0)) fun I=>
 some ((G==(IntKind.i64.wrap (a0.Last+1)))||((G==a0.Last)&&(G==I.Edition)))
theorem QcZ {a0:QAv} {I:Int} {r:Bool} (h:Jh a0 I=some r):PureC prog 84 [.rp [.bool a0.Up,.int .i64 a0.Box.Edition,slD encSb a0.Box.Lines,.int .i64 a0.Box.Trial,slD encSb a0.Box.Back,slD QAr.enc a0.Box.Cands,slD QAu.enc a0.Slots,.int .i64 a0.Live,.int .i64 a0.Last,.int .i64 a0.Job.Kind,.int .i64 a0.Job.Step,.int .i64 a0.Job.Edition,.int .i64 a0.Job.Ticks,slD encSb a0.Job.Lines],dI I] (dB r) []:=by
 refine pY tOk f84 rfl ?_;obtain⟨x1,G,h⟩:=Qb h;refine QsQ [] 0 rfl rfl rfl (by intro O J;exact Qgg (Qn G ⟨O,J⟩)) QsG inA rfl rfl (by first|exact Qkb inA|exact Qnd inA) ?_;cases h;exact lfP []
def Q0 (a0:QAv):Option (Bool):=
 bd (gcall ((a0.Job.Kind !=1)=false) (Jd a0.Job.Lines)) fun G=>
 bd (gcall (((a0.Job.Kind !=1)||(G !=0))=false) (Qs a0.Job.Ticks 0 9)) fun I=>
 bd (gcall ((((((a0.Job.Kind !=1)||(G !=0))||(!I))||(a0.Job.Edition !=(IntKind.i64.wrap (a0.Box.Edition+1))))||(decide (a0.Job.Edition>1000000)))=false) (Qs a0.Job.Step 0 (IntKind.i64.wrap (((a0.Job.Lines.length:Nat):Int)+2)))) fun O=>
(if((((((a0.Job.Kind !=1)||(G !=0))||(!I))||(a0.Job.Edition !=(IntKind.i64.wrap (a0.Box.Edition+1))))||(decide (a0.Job.Edition>1000000)))||(!O))=true then
 some false
else
(if(a0.Job.Step==0)=true then
 bd (Jh a0 a0.Box.Edition) fun Y=>
 some Y
else
 gd ((0:Int)<=IntKind.i64.wrap (1-a0.Live)∧IntKind.i64.wrap (1-a0.Live)<((a0.Slots.length:Nat):Int))<|
(if(a0.Job.Edition !=a0.Last)=true then
 some false
else
(if(a0.Job.Step==(IntKind.i64.wrap (((a0.Job.Lines.length:Nat):Int)+2)))=true then
 bd (gcall (((a0.Slots.getD ((IntKind.i64.wrap (1-a0.Live)).toNat) default).Whole&&(((a0.Slots.getD ((IntKind.i64.wrap (1-a0.Live)).toNat) default).Edition)==a0.Job.Edition))=true) (QM ((a0.Slots.getD ((IntKind.i64.wrap (1-a0.Live)).toNat) default).Lines) a0.Job.Lines)) fun J=>
 some ((((a0.Slots.getD ((IntKind.i64.wrap (1-a0.Live)).toNat) default).Whole&&(((a0.Slots.getD ((IntKind.i64.wrap (1-a0.Live)).toNat) default).Edition)==a0.Job.Edition))&&J)&&(((a0.Slots.getD ((IntKind.i64.wrap (1-a0.Live)).toNat) default).Trial)==(decide (a0.Job.Ticks>0))))
else
 gd ((!((a0.Slots.getD ((IntKind.i64.wrap (1-a0.Live)).toNat) default).Whole))=true->((0:Int)<=(0:Int)∧(0:Int)<=IntKind.i64.wrap (a0.Job.Step-1)∧IntKind.i64.wrap (a0.Job.Step-1)<=((a0.Job.Lines.length:Nat):Int)))<|
 bd (gcall ((!((a0.Slots.getD ((IntKind.i64.wrap (1-a0.Live)).toNat) default).Whole))=true) (QM ((a0.Slots.getD ((IntKind.i64.wrap (1-a0.Live)).toNat) default).Lines) (a0.Job.Lines.take ((IntKind.i64.wrap (a0.Job.Step-1)).toNat)))) fun U=>
 some ((!((a0.Slots.getD ((IntKind.i64.wrap (1-a0.Live)).toNat) default).Whole))&&U)))))
theorem QeM {a0:QAv} {r:Bool} (h:Q0 a0=some r):PureC prog 85 [.rp [.bool a0.Up,.int .i64 a0.Box.Edition,slD encSb a0.Box.Lines,.int .i64 a0.Box.Trial,slD encSb a0.Box.Back,slD QAr.enc a0.Box.Cands,slD QAu.enc a0.Slots,.int .i64 a0.Live,.int .i64 a0.Last,.int .i64 a0.Job.Kind,.int .i64 a0.Job.Step,.int .i64 a0.Job.Edition,.int .i64 a0.Job.Ticks,slD encSb a0.Job.Lines]] (dB r) []:=by
 refine pY tOk f85 rfl (Qas tOk [.a 10 [] (.ref 3 0 0) [(3,.box 32 [dI 0,dI 0,dI 0,dI 0,.d (.nil)])],.a 11 [(3,.box 32 [dI 0,dI 0,dI 0,dI 0,.d (.nil)])] (.any) [(3,.box 32 [dI a0.Job.Kind,dI a0.Job.Step,dI a0.Job.Edition,dI a0.Job.Ticks,.d (slD encSb a0.Job.Lines)])]] 13 [] [0,1,3,7,0,16,48,112,240,496,0,1039,4095] [] [] (aI (by(conv=>whnf);exact⟨rfl,rfl⟩) (aI (by(conv=>whnf);exact⟨rfl,rfl⟩) (aK (Qc tOk ?_)))));obtain⟨x1,O,h⟩:=Qb h;obtain⟨x2,Y,h⟩:=Qb h;obtain⟨x3,I,h⟩:=Qb h;refine QW tOk [.u 6 0 (dI x1) [],.u 12 0 (dB x2) [],.u 36 0 (dB x3) []] 39 [] [0,1,3,7,15,31,63,127,255,511,1023,2047,4095,8191,16383,32767,65535,131071,65535,327679,851967,1900543,3997695,8191999,16777215,33554431,67108863,134217727,268435455,536870911,1073741823,2147483647,4294967295,8589934591,4294967295,21474836479,68719476735,137438953471,274877906943] [] (aI (Qw rfl rfl rfl rfl (by intro G;exact QdJ (Qn O G))) (aI (Qw rfl rfl rfl rfl (by intro G;exact QX (Qn Y G))) (aI (Qw rfl rfl rfl rfl (by intro G;exact QX (Qn I G))) (aK ?_))));apply Qo h<;>intro _ h
 ·cases h
  exact lfP []
 ·refine Qc tOk ?_;apply Qo h<;>intro _ h
  ·refine bC h 0 (fun _=>QcZ) fun x4 h=>?_;cases h;exact lfP []
  ·refine QkH tOk 20000 (fn:=f81) (c:=JW f81) rfl rfl (by kernel_rfl) rfl ?_;obtain⟨g5,h⟩:=Qf h;refine QW tOk [] 11 [] [0,1,3,7,0,16,48,112,240,511,1023] [] (aI g5 (aK (Qc tOk (QW tOk [] 7 [] [0,1,0,4,12,28,63] [] (aK ?_)))));apply Qo h<;>intro _ h
   ·cases h
    exact lfP []
   ·refine Qc tOk ?_;apply Qo h<;>intro _ h
    ·obtain⟨x6,J,h⟩:=Qb h;refine QW tOk [.u 20 0 (dB x6) []] 33 [] [0,1,3,7,15,31,63,127,255,31,543,2047,4095,8191,16383,32767,65535,131071,16383,278527,1048575,2097151,4194303,8388607,16777215,33554431,67108863,8388607,142606335,411041791,1073741823,2147483647,4294967295] [] (aI (Qw rfl rfl rfl rfl (by intro G;exact Q9 (Qn J G))) (aK ?_));cases h;exact lfP []
    ·obtain⟨g7,h⟩:=Qf h;obtain⟨x8,U,h⟩:=Qb h;refine QW tOk [.u 16 0 (dB x8) []] 19 [] [0,1,3,7,15,31,63,127,255,511,63,1087,63,4159,12351,31807,65535,131071,262143] [] (aI (by intro G;exact⟨g7 G,.inr rfl⟩) (aI (Qw rfl rfl rfl rfl (by intro G;have q0:=g7 G;exact(Q9 (Qn U G)).le QsG)) (aK ?_)));cases h;exact lfP []
def J5 (a0:QAv):Option (Bool):=
 gd ((0:Int)<=a0.Live∧a0.Live<((a0.Slots.length:Nat):Int))<|
 gd ((0:Int)<=IntKind.i64.wrap (1-a0.Live)∧IntKind.i64.wrap (1-a0.Live)<((a0.Slots.length:Nat):Int))<|
(if(a0.Box.Trial !=0)=true then
 bd (Qs a0.Box.Trial 1 9) fun J=>
 bd (gcall ((J&&(a0.Slots.getD a0.Live.toNat default).Trial)=true) (QM ((a0.Slots.getD a0.Live.toNat default).Lines) a0.Box.Lines)) fun U=>
 bd (gcall (((J&&(a0.Slots.getD a0.Live.toNat default).Trial)&&U)=true) (QM ((a0.Slots.getD ((IntKind.i64.wrap (1-a0.Live)).toNat) default).Lines) a0.Box.Back)) fun Y=>
 bd (gcall (((((J&&(a0.Slots.getD a0.Live.toNat default).Trial)&&U)&&Y)&&(a0.Box.Edition==a0.Last))=true) (Qx a0.Job 0)) fun x6=>
 bd (gcall (x6=false∧((((J&&(a0.Slots.getD a0.Live.toNat default).Trial)&&U)&&Y)&&(a0.Box.Edition==a0.Last))=true) (Qx a0.Job 2)) fun x7=>
 some (((((J&&(a0.Slots.getD a0.Live.toNat default).Trial)&&U)&&Y)&&(a0.Box.Edition==a0.Last))&&(x6||x7))
else
(if(decide (((a0.Box.Back.length:Nat):Int)>0))=true then
 some false
else
(if(a0.Slots.getD a0.Live.toNat default).Trial=true then
 bd (QM ((a0.Slots.getD ((IntKind.i64.wrap (1-a0.Live)).toNat) default).Lines) a0.Box.Lines) fun x8=>
 bd (gcall ((x8&&(a0.Box.Edition==(IntKind.i64.wrap (a0.Last+1))))=true) (Qx a0.Job 3)) fun x9=>
 some ((x8&&(a0.Box.Edition==(IntKind.i64.wrap (a0.Last+1))))&&x9)
else
 bd (QM ((a0.Slots.getD a0.Live.toNat default).Lines) a0.Box.Lines) fun G=>
 bd (gcall (G=true) (Qx a0.Job 0)) fun I=>
 bd (gcall (I=true∧G=true) (Jh a0 a0.Box.Edition)) fun O=>
 bd (gcall ((I&&O)=false∧G=true) (Q0 a0)) fun a1=>
 some (G&&((I&&O)||a1)))))
theorem QfZ {a0:QAv} {r:Bool} (h:J5 a0=some r):PureC prog 37 [.rp [.bool a0.Up,.int .i64 a0.Box.Edition,slD encSb a0.Box.Lines,.int .i64 a0.Box.Trial,slD encSb a0.Box.Back,slD QAr.enc a0.Box.Cands,slD QAu.enc a0.Slots,.int .i64 a0.Live,.int .i64 a0.Last,.int .i64 a0.Job.Kind,.int .i64 a0.Job.Step,.int .i64 a0.Job.Edition,.int .i64 a0.Job.Ticks,slD encSb a0.Job.Lines]] (dB r) []:=by
 refine pY tOk f37 rfl (QkH tOk 20000 (fn:=f80) (c:=JW f80) rfl rfl (by kernel_rfl) rfl ?_);obtain⟨g1,h⟩:=Qf h;refine QW tOk [] 10 [] [0,1,3,7,0,16,48,112,255,511] [] (aI g1 (aK (QkH tOk 20000 (fn:=f81) (c:=JW f81) rfl rfl (by kernel_rfl) rfl ?_)));obtain⟨g2,h⟩:=Qf h;refine QW tOk [] 11 [] [0,1,3,7,0,16,48,112,240,511,1023] [] (aI g2 (aK (Qc tOk ?_)));apply Qo h<;>intro _ h
 ·obtain⟨x3,a4,h⟩:=Qb h;obtain⟨x4,a1,h⟩:=Qb h;obtain⟨x5,a7,h⟩:=Qb h;obtain⟨x6,a2,h⟩:=Qb h;obtain⟨x7,b2,h⟩:=Qb h;refine QW tOk [.u 2 0 (dB x3) [],.u 16 0 (dB x4) [],.u 25 0 (dB x5) [],.u 41 0 (dB x6) [],.u 47 0 (dB x7) []] 51 [] [0,1,3,7,15,31,63,127,255,511,1023,2047,4095,8191,1023,17407,65535,131071,262143,524287,1048575,2097151,4194303,524287,8912895,33554431,67108863,134217727,268435455,536870911,268435455,1342177279,3489660927,7784628223,17179869183,34359738367,68719476735,137438953471,274877906943,549755813887,1099511627775,2199023255551,4398046511103,8796093022207,17592186044415,35184372088831,70368744177663,140737488355327,281474976710655,562949953421311,1125899906842623] [] (aI (QN (QX a4) (by kernel_rfl)) (aI (Qw rfl rfl rfl rfl (by intro G;exact Q9 (Qn a1 G))) (aI (Qw rfl rfl rfl rfl (by intro G;exact Q9 (Qn a7 G))) (aI (Qw rfl rfl rfl rfl (by intro G;exact Jt (Qn a2 G))) (aI (Qw rfl rfl rfl rfl (by intro G U;exact Jt (Qn b2 ⟨G,U⟩))) (aK ?_))))));cases h;exact lfP []
 ·refine Qc tOk ?_;apply Qo h<;>intro _ h
  ·cases h
   exact lfP []
  ·refine Qc tOk ?_;apply Qo h<;>intro _ h
   ·obtain⟨x8,a6,h⟩:=Qb h;obtain⟨x9,a3,h⟩:=Qb h;refine QW tOk [.u 6 0 (dB x8) [],.u 22 0 (dB x9) []] 25 [] [0,1,3,7,0,16,63,127,255,511,255,1279,3327,7423,15615,32767,65535,131071,262143,524287,1048575,2097151,4194303,8388607,16777215] [] (aI (QN (Q9 a6) (by kernel_rfl)) (aI (Qw rfl rfl rfl rfl (by intro G;exact Jt (Qn a3 G))) (aK ?_)));cases h;exact lfP []
   ·obtain⟨a5,Y,h⟩:=Qb h;obtain⟨a9,I,h⟩:=Qb h;obtain⟨b3,O,h⟩:=Qb h;obtain⟨a8,J,h⟩:=Qb h;refine QW tOk [.u 6 0 (dB a5) [],.u 12 0 (dB a9) [],.u 17 0 (dB b3) [],.u 21 0 (dB a8) []] 25 [] [0,1,3,7,0,16,63,127,255,511,1023,2047,4095,8191,16383,16383,49151,131071,262143,524287,1048575,2097151,4194303,8388607,16777215] [] (aI (QN (Q9 Y) (by kernel_rfl)) (aI (Qw rfl rfl rfl rfl (by intro G;exact Jt (Qn I G))) (aI (Qw rfl rfl rfl rfl (by intro G U;exact QcZ (Qn O ⟨G,U⟩))) (aI (Qw rfl rfl rfl rfl (by intro G U;exact QeM (Qn J ⟨G,U⟩))) (aK ?_)))));cases h;exact lfP []
def Z5 (a0:QAv):Option (Bool):=
 bd (Jz a0) fun I=>
(if(!I)=true then
 some false
else
(if(!a0.Up)=true then
 bd (gcall ((((((a0.Box.Edition==0)&&(((a0.Box.Lines.length:Nat):Int)==0))&&(a0.Box.Trial==0))&&(((a0.Box.Back.length:Nat):Int)==0))&&(((a0.Box.Cands.length:Nat):Int)==0))=true) (Qx a0.Job 0)) fun J=>
 some ((((((a0.Box.Edition==0)&&(((a0.Box.Lines.length:Nat):Int)==0))&&(a0.Box.Trial==0))&&(((a0.Box.Back.length:Nat):Int)==0))&&(((a0.Box.Cands.length:Nat):Int)==0))&&J)
else
 bd (Jg a0.Box) fun G=>
 bd (gcall (G=true) (J5 a0)) fun O=>
 some (G&&O)))
theorem QcJ {a0:QAv} {r:Bool} (h:Z5 a0=some r):PureC prog 11 [.agg [dB a0.Up,dI a0.Box.Edition,.d (slD encSb a0.Box.Lines),dI a0.Box.Trial,.d (slD encSb a0.Box.Back),.d (slD QAr.enc a0.Box.Cands),.d (slD QAu.enc a0.Slots),dI a0.Live,dI a0.Last,dI a0.Job.Kind,dI a0.Job.Step,dI a0.Job.Edition,dI a0.Job.Ticks,.d (slD encSb a0.Job.Lines)]] (dB r) []:=by
 refine pY tOk f11 rfl (Qc tOk (bC h 0 (fun _=>QeT) fun x1 h=>?_));apply Qo h<;>intro _ h
 ·cases h
  exact lfP []
 ·refine Qc tOk ?_;apply Qo h<;>intro _ h
  ·refine bG h (fun _=>Jt) fun x2 h=>?_;cases h;exact lfP []
  ·refine bC h 0 (fun _=>QfY) fun x3 h=>bG h (fun _=>QfZ) fun x4 h=>?_;cases h;exact lfP []
def QD (a0:(List Bt)):Option ((List Bt)):=
 gd ((0:Int)<=0∧0<=((a0.length:Nat):Int)∧((a0.length:Nat):Int)*16<=140737488355328∧((a0.length:Nat):Int)<=140737488355328)<|
 gd ((((List.replicate (0:Int).toNat (default:Bt)).length)+(a0.length))*(16+1)<=70368744177664)<|
 some ((List.replicate (0:Int).toNat (default:Bt))++a0)
theorem Q2 {a0:(List Bt)} {r:(List Bt)} (h:QD a0=some r):PureC prog 25 [.d (slD encSb a0)] (.osl 5001 0 r.length) [⟨5001,9,1,r.length,rows encSb r⟩]:=by
 refine pY tOk f25 rfl ?_;obtain⟨G,h⟩:=Qf h;refine aI G (⟨(List.replicate (0:Int).toNat (default:Bt)).length,rows encSb (List.replicate (0:Int).toNat (default:Bt)),by simp,fun i hi=>absurd hi (by simp),?_⟩);refine gdI h fun h=>Qf7 (enc:=encSb) (xs:=(List.replicate (0:Int).toNat (default:Bt))) (ys:=a0) ?_;cases h;exact lfP [.s [(5,5001),(5001,5)]]
def QS (a0:(List Bt)):Option ((List Bt)):=
 gd ((0:Int)<=0∧0<=((a0.length:Nat):Int)∧((a0.length:Nat):Int)*16<=140737488355328∧((a0.length:Nat):Int)<=140737488355328)<|
 gd ((((List.replicate (0:Int).toNat (default:Bt)).length)+(a0.length))*(16+1)<=70368744177664)<|
 some ((List.replicate (0:Int).toNat (default:Bt))++a0)
theorem JA {a0:(List Bt)} {r:(List Bt)} (h:QS a0=some r):EffC prog 25 [.d (slD encSb a0)] [] (.d (slD encSb r)) []:=by
 refine eY tOk f25 rfl ?_;obtain⟨G,h⟩:=Qf h;refine aI G (⟨(List.replicate (0:Int).toNat (default:Bt)).length,rows encSb (List.replicate (0:Int).toNat (default:Bt)),by simp,fun i hi=>absurd hi (by simp),?_⟩);refine gdI h fun h=>Qf7 (enc:=encSb) (xs:=(List.replicate (0:Int).toNat (default:Bt))) (ys:=a0) ?_;cases h;exact lfE [.f [5]]
def QbU (a0:QAs):Option (QAs):=
 bd (QD a0.Lines) fun U=>
 bd (QD a0.Back) fun Y=>
 bd (lp (σ:=List QAr×Int) (β:=((List QAr)×Nat)) (fun G=>
(if(decide (G.2<((a0.Cands.length:Nat):Int)))=true then
 gd ((0:Int)<=G.2∧G.2<((a0.Cands.length:Nat):Int))<|
 bd (QS ((a0.Cands.getD G.2.toNat default).From)) fun J=>
 bd (QS ((a0.Cands.getD G.2.toNat default).Lines)) fun I=>
 gd (((G.1.length)+(([{(a0.Cands.getD G.2.toNat default) with From:=J,Lines:=I}]:List QAr).length))*(72+1)<=70368744177664)<|
 some (.inl ((G.1++([{(a0.Cands.getD G.2.toNat default) with From:=J,Lines:=I}]:List QAr)),IntKind.i64.wrap (G.2+1)))
else
 some (.inr (G.1,G.1.length)))) (([]:List QAr),0)) fun O=>
 some ({a0 with Lines:=U,Back:=Y,Cands:=O.1})
theorem Qg9 {a0:QAs} {r:QAs} (h:QbU a0=some r):EffC prog 57 [.agg [dI a0.Edition,.d (slD encSb a0.Lines),dI a0.Trial,.d (slD encSb a0.Back),.d (slD QAr.enc a0.Cands)]] [] (.agg [dI r.Edition,.osl 5001 0 r.Lines.length,dI r.Trial,.osl 5002 0 r.Back.length,.osl 5003 0 r.Cands.length]) [(5001,.arr 9 1 r.Lines.length (rows encSb r.Lines)),(5002,.arr 9 1 r.Back.length (rows encSb r.Back)),(5003,.arr 93 4 r.Cands.length (rows QAr.enc r.Cands))]:=by
 refine eY tOk f57 rfl ?_;obtain⟨J,a1,h⟩:=Qb h;obtain⟨O,a4,h⟩:=Qb h;refine QW tOk [.u 4 1000 (.osl 5001 0 J.length) [⟨5001,9,1,J.length,rows encSb J⟩],.u 9 2000 (.osl 5001 0 O.length) [⟨5001,9,1,O.length,rows encSb O⟩]] 12 [] [0,1,0,4,12,0,32,0,128,412,1023,0] [4095] (aI (QN (Q2 a1) (by kernel_rfl)) (aI (QN (Q2 a4) (by kernel_rfl)) (aK (Qc tOk ?_))));obtain⟨x6,U,h⟩:=Qb h;refine QF tOk U (fun I=>⟨0,42,[(2,.ref 2 0 0),(3,.ref 3 0 0),(18,.d (slD QAr.enc a0.Cands)),(19,dI ((a0.Cands.length:Nat):Int)),(20,dI I.2)],[],[(7002,.arr 93 4 I.1.length (rows QAr.enc I.1)),(3,.box 29 [dI a0.Edition,.osl 6001 0 J.length,dI a0.Trial,.osl 7001 0 O.length,.osl 7002 0 I.1.length]),(7001,.arr 9 1 O.length (rows encSb O)),(6001,.arr 9 1 J.length (rows encSb J)),(2,.box 29 [dI 0,.d (.nil),dI 0,.d (.nil),.d (.nil)])],[⟨[],[]⟩]⟩) ?_ ?_
 ·exact leX [.k [7002],.p 7002 93 4 (rows QAr.enc ([]:List QAr))]
 ·clear U;intro I y4 G Y;refine Qc tOk ?_;apply Qo G<;>intro _ G
  ·refine Qc tOk (gdI G fun G=>?_);obtain⟨x8,a3,G⟩:=Qb G;obtain⟨x9,a2,G⟩:=Qb G;refine Qas tOk [.e 8 [] (.d (slD encSb x8)) [] [],.e 11 [] (.d (slD encSb x9)) [] []] 14 [] [0,1,0,4,0,16,0,64,192,0,512,1984,4092,8188] [16383,32767,65535] [] (aI (eD [] 0 (JA a3)) (aI (eD [] 0 (JA a2)) (QbB (enc:=QAr.enc) ([{(a0.Cands.getD I.2.toNat default) with From:=x8,Lines:=x9}]:List QAr) (aK (gdI G fun G=>Qf7 (enc:=QAr.enc) (xs:=I.1) (ys:=([{(a0.Cands.getD I.2.toNat default) with From:=x8,Lines:=x9}]:List QAr)) ?_)))));exact eX G []
  ·cases G
   cases Y _ rfl
   cases h
   exact lfE [.s [(5001,6001),(5002,7001),(5003,7002),(6001,5001),(7001,5002),(7002,5003)]]
def Ju (a0:(List QAu)):Option ((List QAu)):=
 gd ((0:Int)<=0∧0<=((a0.length:Nat):Int)∧((a0.length:Nat):Int)*48<=140737488355328∧((a0.length:Nat):Int)<=140737488355328)<|
 gd ((((List.replicate (0:Int).toNat (default:QAu)).length)+(a0.length))*(48+1)<=70368744177664)<|
 some ((List.replicate (0:Int).toNat (default:QAu))++a0)
theorem QdA {a0:(List QAu)} {r:(List QAu)} (h:Ju a0=some r):EffC prog 58 [.d (slD QAu.enc a0)] [] (.osl 5001 0 r.length) [(5001,.arr 61 4 r.length (rows QAu.enc r))]:=by
 refine eY tOk f58 rfl ?_;obtain⟨G,h⟩:=Qf h;refine aI G (⟨(List.replicate (0:Int).toNat (default:QAu)).length,rows QAu.enc (List.replicate (0:Int).toNat (default:QAu)),by simp,fun i hi=>absurd hi (by simp),?_⟩);refine gdI h fun h=>Qf7 (enc:=QAu.enc) (xs:=(List.replicate (0:Int).toNat (default:QAu))) (ys:=a0) ?_;cases h;exact lfE [.s [(5,5001),(5001,5)]]
def Qbp (a0:QAv):Option (QAv):=
 bd (QbU a0.Box) fun O=>
 bd (QD a0.Job.Lines) fun Y=>
 bd (Ju a0.Slots) fun I=>
 bd (lp (σ:=List QAu×Int) (β:=((List QAu)×Nat)) (fun G=>
(if(decide (G.2<((I.length:Nat):Int)))=true then
 gd ((0:Int)<=G.2∧G.2<((a0.Slots.length:Nat):Int))<|
 bd (QD ((a0.Slots.getD G.2.toNat default).Lines)) fun U=>
 gd ((0:Int)<=G.2∧G.2<((G.1.length:Nat):Int))<|
 some (.inl (G.1.set G.2.toNat ({(G.1.getD G.2.toNat default) with Lines:=U}),IntKind.i64.wrap (G.2+1)))
else
 some (.inr (G.1,G.1.length)))) (I,0)) fun J=>
 some ({a0 with Box:=O,Slots:=J.1,Job:={a0.Job with Lines:=Y}})
theorem Qgh {a0:QAv} {r:QAv} (h:Qbp a0=some r):EffC prog 26 [.agg [dB a0.Up,dI a0.Box.Edition,.d (slD encSb a0.Box.Lines),dI a0.Box.Trial,.d (slD encSb a0.Box.Back),.d (slD QAr.enc a0.Box.Cands),.d (slD QAu.enc a0.Slots),dI a0.Live,dI a0.Last,dI a0.Job.Kind,dI a0.Job.Step,dI a0.Job.Edition,dI a0.Job.Ticks,.d (slD encSb a0.Job.Lines)]] [] (.agg [dB r.Up,dI r.Box.Edition,.osl 5001 0 r.Box.Lines.length,dI r.Box.Trial,.osl 5002 0 r.Box.Back.length,.osl 5003 0 r.Box.Cands.length,.osl 5004 0 r.Slots.length,dI r.Live,dI r.Last,dI r.Job.Kind,dI r.Job.Step,dI r.Job.Edition,dI r.Job.Ticks,.osl 5005 0 r.Job.Lines.length]) [(5001,.arr 9 1 r.Box.Lines.length (rows encSb r.Box.Lines)),(5002,.arr 9 1 r.Box.Back.length (rows encSb r.Box.Back)),(5003,.arr 93 4 r.Box.Cands.length (rows QAr.enc r.Box.Cands)),(5004,.arr 61 4 r.Slots.length (rows QAu.enc r.Slots)),(5005,.arr 9 1 r.Job.Lines.length (rows encSb r.Job.Lines))]:=by
 refine eY tOk f26 rfl ?_;obtain⟨G,a4,h⟩:=Qb h;obtain⟨O,a6,h⟩:=Qb h;obtain⟨x3,a1,h⟩:=Qb h;refine Qas tOk [.e 2 [] (.agg [dI G.Edition,.osl 6001 0 G.Lines.length,dI G.Trial,.osl 6002 0 G.Back.length,.osl 6003 0 G.Cands.length]) [(6001,.arr 9 1 G.Lines.length (rows encSb G.Lines)),(6002,.arr 9 1 G.Back.length (rows encSb G.Back)),(6003,.arr 93 4 G.Cands.length (rows QAr.enc G.Cands))] [],.u 6 2000 (.osl 5001 0 O.length) [⟨5001,9,1,O.length,rows encSb O⟩],.e 9 [] (.osl 8001 0 x3.length) [(8001,.arr 61 4 x3.length (rows QAu.enc x3))] []] 11 [] [0,1,3,0,8,24,63,0,128,511,7] [2047,4095,8191,16383,32767,65535] [] (aI (eD [] 1000 (Qg9 a4)) (aI (QN (Q2 a6) (by kernel_rfl)) (aI (eD [] 3000 (QdA a1)) (aK (Qc tOk ?_)))));obtain⟨x7,U,h⟩:=Qb h;refine QF tOk U (fun J=>⟨0,40,[(1,.ref 1 0 0),(2,.ref 2 0 0),(3,.ref 3 0 0),(22,dI ((x3.length:Nat):Int)),(23,dI J.2)],[],[(8001,.arr 61 4 J.1.length (rows QAu.enc J.1)),(7001,.arr 9 1 O.length (rows encSb O)),(6001,.arr 9 1 G.Lines.length (rows encSb G.Lines)),(6002,.arr 9 1 G.Back.length (rows encSb G.Back)),(6003,.arr 93 4 G.Cands.length (rows QAr.enc G.Cands)),(3,.box 34 [dB a0.Up,dI G.Edition,.osl 6001 0 G.Lines.length,dI G.Trial,.osl 6002 0 G.Back.length,.osl 6003 0 G.Cands.length,.osl 8001 0 J.1.length,dI a0.Live,dI a0.Last,dI a0.Job.Kind,dI a0.Job.Step,dI a0.Job.Edition,dI a0.Job.Ticks,.osl 7001 0 O.length]),(2,.box 34 [dB false,dI 0,.d (.nil),dI 0,.d (.nil),.d (.nil),.d (.nil),dI 0,dI 0,dI 0,dI 0,dI 0,dI 0,.d (.nil)]),(1,.box 34 [dB a0.Up,dI a0.Box.Edition,.d (slD encSb a0.Box.Lines),dI a0.Box.Trial,.d (slD encSb a0.Box.Back),.d (slD QAr.enc a0.Box.Cands),.d (slD QAu.enc a0.Slots),dI a0.Live,dI a0.Last,dI a0.Job.Kind,dI a0.Job.Step,dI a0.Job.Edition,dI a0.Job.Ticks,.d (slD encSb a0.Job.Lines)])],[⟨[],[]⟩]⟩) ?_ ?_
 ·exact leX []
 ·clear U;intro J y5 I a3;refine Qc tOk ?_;apply Qo I<;>intro _ I
  ·refine Qc tOk ?_;obtain⟨g8,I⟩:=Qf I;obtain⟨Y,a5,I⟩:=Qb I;obtain⟨a2,I⟩:=Qf I;refine QW tOk [.u 9 4000 (.osl 5001 0 Y.length) [⟨5001,9,1,Y.length,rows encSb Y⟩]] 12 [] [0,1,0,0,8,0,56,120,248,504,1023,2047] [4095] (aI g8 (aI (QN (Q2 a5) (by kernel_rfl)) (aI a2 (aK (⟨rows QAu.enc (J.1.set J.2.toNat ({(J.1.getD J.2.toNat default) with Lines:=Y})),QaJ QsN rfl,?_⟩)))));exact eX I []
  ·cases I
   cases a3 _ rfl
   cases h
   exact lfE [.s [(5001,6001),(5002,6002),(5003,6003),(5004,8001),(5005,7001),(6001,5001),(6002,5002),(6003,5003),(7001,5005),(8001,5004)]]
def J1 (a0:(List Bt)) (Y:Bt):Option ((List Bt)×Bool):=
 bd (QH a0 (⟨#[117,115,101,114]⟩:Bt)) fun I=>
 bd (lp (σ:=Int) (β:=((Nat×Bool×(List Bt))⊕Unit)) (fun G=>
(if(decide (G<((I.length:Nat):Int)))=true then
 gd ((0:Int)<=G∧G<((I.length:Nat):Int))<|
 gd ((0:Int)<=1∧1<(((I.getD G.toNat default).length:Nat):Int))<|
(if(((I.getD G.toNat default).getD 1 default)==Y)=true then
 gd ((0:Int)<=2∧2<(((I.getD G.toNat default).length:Nat):Int))<|
 bd (Jr ((I.getD G.toNat default).getD 2 default)) fun O=>
 some (.inr (.inl (O.1.length,O.2,O.1)))
else
 some (.inl (IntKind.i64.wrap (G+1))))
else
 some (.inr (.inr ())))) 0) fun U=>
(match U with
| .inl J=>
 some (J.2.2,J.2.1)
| .inr d11=>
 some ([],false))
theorem Qeh {a0:(List Bt)} {U:Bt} {r:(List Bt)×Bool} (h:J1 a0 U=some r):PureC prog 122 [.d (slD encSb a0),.d (.str U)] (.tup [.osl 5001 0 r.1.length,dB r.2]) [⟨5001,9,1,r.1.length,rows encSb r.1⟩]:=by
 refine pY tOk f122 rfl (Qc tOk (bE h [] 1000 (fun _=>Z2) fun O h=>?_));obtain⟨x5,J,h⟩:=Qb h;refine QF tOk J (fun Y=>⟨0,27,[(1,.d (.str U)),(9,.osl 6001 0 O.length),(10,dI ((O.length:Nat):Int)),(11,dI Y)],[],[(6001,.arr 23 1 O.length (rows (Qfk encSb) O))],[]⟩) ?_ ?_
 ·exact leX []
 ·clear J;intro Y y3 G I;refine Qc tOk ?_;apply Qo G<;>intro _ G
  ·refine Qc tOk (gdI G fun G=>gdI G fun G=>?_);apply Qo G<;>intro _ G
   ·refine gdI G fun G=>bC G 2000 (fun _=>Qgb) fun x9 G=>?_;cases G;cases I _ rfl;cases h;exact lfP [.s [(5001,7001),(7001,5001)]]
   ·exact eX G []
  ·cases G
   cases I _ rfl
   cases h
   exact lfP [.p 5001 9 1 (rows encSb ([]:List Bt))]
def QV (a0:QAr) (G:Bt):Option (Bool):=
 some (a0.User==G)
theorem Qbq {a0:QAr} {G:Bt} {r:Bool} (h:QV a0 G=some r):PureC prog 165 [.agg [.d (.str a0.User),dI a0.Base,.d (slD encSb a0.From),.d (slD encSb a0.Lines)],.rp [.str G]] (dB r) []:=by
 refine pY tOk f165 rfl ?_;unfold QV at h;cases h;exact lfP []
def QR (a0:(List QAr)) (G:Bt):Option (Int):=
 bd (lp (σ:=Int) (β:=(Int⊕Unit)) (fun s1=>
(if(decide (s1<((a0.length:Nat):Int)))=true then
 gd ((0:Int)<=s1∧s1<((a0.length:Nat):Int))<|
 bd (QV (a0.getD s1.toNat default) G) fun I=>
(if I=true then
 some (.inr (.inl s1))
else
 some (.inl (IntKind.i64.wrap (s1+1))))
else
 some (.inr (.inr ())))) 0) fun O=>
(match O with
| .inl J=>
 some J
| .inr d8=>
 some (-1))
theorem Z9 {a0:(List QAr)} {I:Bt} {r:Int} (h:QR a0 I=some r):PureC prog 189 [.d (slD QAr.enc a0),.fn 165 [.rp [.str I]]] (dI r) []:=by
 refine pY tOk f189 rfl (Qc tOk ?_);obtain⟨x4,J,h⟩:=Qb h;refine QF tOk J (fun s1=>⟨0,19,[(0,.d (slD QAr.enc a0)),(1,.fn 165 [.rp [.str I]]),(7,dI ((a0.length:Nat):Int)),(8,dI s1)],[],[],[]⟩) ?_ ?_
 ·exact leX []
 ·clear J;intro s1 y2 G O;refine Qc tOk ?_;apply Qo G<;>intro _ G
  ·refine Qc tOk (gdI G fun G=>bC G 0 (fun _=>Qbq) fun x6 G=>?_);apply Qo G<;>intro _ G
   ·cases G
    cases O _ rfl
    cases h
    exact lfP []
   ·exact eX G []
  ·cases G
   cases O _ rfl
   cases h
   exact lfP []
def Q8 (a0:QAv) (O:Bt):Option (QAv):=
 bd (QR a0.Box.Cands O) fun J=>
(if(J==(-1))=true then
 some a0
else
 bd (lp (σ:=List QAr×Int×Int) (β:=(Nat×Int×(List QAr))) (fun G=>
(if(decide (G.2.2<((G.1.length:Nat):Int)))=true then
 gd ((0:Int)<=G.2.2∧G.2.2<((G.1.length:Nat):Int))<|
 bd (QV (G.1.getD G.2.2.toNat default) O) fun U=>
(if(!U)=true then
 gd ((0:Int)<=G.2.1∧G.2.1<((G.1.length:Nat):Int))<|
 some (.inl (G.1.set G.2.1.toNat (G.1.getD G.2.2.toNat default),IntKind.i64.wrap (G.2.1+1),IntKind.i64.wrap (G.2.2+1)))
else
 some (.inl (G.1,G.2.1,IntKind.i64.wrap (G.2.2+1))))
else
 some (.inr (G.1.length,G.2.1,G.1)))) (a0.Box.Cands,J,IntKind.i64.wrap (J+1))) fun I=>
 gd ((0:Int)<=I.2.1∧I.2.1<=((I.1:Nat):Int)∧((I.1:Nat):Int)<=((I.1:Nat):Int))<|
 gd ((0:Int)<=(0:Int)∧(0:Int)<=I.2.1∧I.2.1<=((I.1:Nat):Int))<|
 some ({a0 with Box:={a0.Box with Cands:=(QpG I.2.2 I.2.1.toNat (QgL ((I.1:Nat):Int) I.2.1)).take I.2.1.toNat}}))
theorem QbV {a0:QAv} {O:Bt} {r:QAv} (h:Q8 a0 O=some r):EffC prog 124 [.ref 9000 0 0,.d (.str O)] [(9000,.box 34 [dB a0.Up,dI a0.Box.Edition,.d (slD encSb a0.Box.Lines),dI a0.Box.Trial,.d (slD encSb a0.Box.Back),.osl 9001 0 a0.Box.Cands.length,.d (slD QAu.enc a0.Slots),dI a0.Live,dI a0.Last,dI a0.Job.Kind,dI a0.Job.Step,dI a0.Job.Edition,dI a0.Job.Ticks,.d (slD encSb a0.Job.Lines)]),(9001,.arr 93 4 a0.Box.Cands.length (rows QAr.enc a0.Box.Cands))] (.tup []) [(9000,.box 34 [dB a0.Up,dI a0.Box.Edition,.d (slD encSb a0.Box.Lines),dI a0.Box.Trial,.d (slD encSb a0.Box.Back),.osl 5001 0 r.Box.Cands.length,.d (slD QAu.enc a0.Slots),dI a0.Live,dI a0.Last,dI a0.Job.Kind,dI a0.Job.Step,dI a0.Job.Edition,dI a0.Job.Ticks,.d (slD encSb a0.Job.Lines)]),(5001,.arr 93 4 r.Box.Cands.length (rows QAr.enc r.Box.Cands))]:=by
 refine eY tOk f124 rfl (QkH tOk 20000 (fn:=f164) (c:=JW f164) rfl rfl (by kernel_rfl) rfl (bC h 0 (fun _=>Z9) fun x1 h=>Qc tOk ?_));apply Qo h<;>intro _ h
 ·cases h
  exact lfE [.s [(5001,9001),(9001,5001)]]
 ·refine Qc tOk ?_;obtain⟨x5,J,h⟩:=Qb h;refine QF tOk J (fun G=>⟨20000,42,[(0,.osl 9001 0 G.1.length),(1,.fn 165 [.ref 3 0 0]),(5,dI G.2.1),(6,dI G.2.2)],[],[(3,.box 9 [.d (.str O)]),(9000,.box 34 [dB a0.Up,dI a0.Box.Edition,.d (slD encSb a0.Box.Lines),dI a0.Box.Trial,.d (slD encSb a0.Box.Back),.osl 9001 0 G.1.length,.d (slD QAu.enc a0.Slots),dI a0.Live,dI a0.Last,dI a0.Job.Kind,dI a0.Job.Step,dI a0.Job.Edition,dI a0.Job.Ticks,.d (slD encSb a0.Job.Lines)]),(9001,.arr 93 4 G.1.length (rows QAr.enc G.1))],[⟨[(0,.ref 9000 0 0),(1,.d (.str O)),(3,.ref 3 0 0),(4,.ref 9000 0 0),(5,.ref 9000 0 0),(6,.ref 9000 0 0),(7,.ref 9000 0 1),(8,.ref 9000 0 5),(9,.osl 9001 0 G.1.length),(10,.fn 165 [.ref 3 0 0])],[]⟩,⟨[(0,.ref 9000 0 0)],[]⟩]⟩) ?_ ?_
  ·exact leX []
  ·clear J;intro G y3 I Y;refine Qc tOk ?_;apply Qo I<;>intro _ I
   ·refine Qc tOk (gdI I fun I=>bC I 0 (fun _=>Qbq) fun x7 I=>?_);apply Qo I<;>intro _ I
    ·refine gdI I fun I=>⟨rows QAr.enc (G.1.set G.2.1.toNat (G.1.getD G.2.2.toNat default)),QaJ QsN rfl,?_⟩;exact eX I []
    ·exact eX I []
   ·cases I
    cases Y _ rfl
    obtain⟨U,h⟩:=Qf h;refine aI U (⟨rows QAr.enc (QpG (G.1.length,G.2.1,G.1).2.2 (G.1.length,G.2.1,G.1).2.1.toNat (QgL (((G.1.length,G.2.1,G.1).1:Nat):Int) (G.1.length,G.2.1,G.1).2.1)),Qng QsN zlA,?_⟩);obtain⟨a2,h⟩:=Qf h;refine aI a2 ?_;cases h;exact lfE [.cb 9000 5,.s [(5001,9001),(9001,5001)]]
end
end Go.Proofs.YtoknnjiangjccaaGreatDoor
