/-
  Plain Lean: what the models of functions compute; no condition.
-/
import Derived.Test.YtfpbhbbdhfbilaaGreatDoorKz6
import Derived.Test.YtfpbhbbdhfbilaaGreatDoorPz2
import Derived.Test.YtfpbhbbdhfbilaaGreatDoorPz1
set_option linter.all false
namespace Go.Proofs.YtfpbhbbdhfbilaaGreatDoor
open Go Go.Ab
set_option maxHeartbeats 4000000
set_option maxRecDepth 100000
theorem QpD (w:Bs):0≤(pfN w).Addr∧(pfN w).Addr≤65535∧0≤(pfN w).Len∧(pfN w).Len≤16:=by
 unfold pfN;split
 ·rename_i a n h;have:=QfF h;unfold mkP;dsimp only;omega
 ·decide
theorem J0 {ls:List Bs} (h:Qc2 ls=0):QfV ls=0∧QmU (ls.map wsL)=0:=by
 unfold Qc2 at h;split at h
 ·exact⟨‹_›,h⟩
 ·exact absurd h ‹_›
theorem Qeu {cs:List (List Bs)} (h:QmU cs=0):cs.any (QfW cs)=false∧QeH cs=true∧cs.any (QfH cs)=false∧Qfb cs=true:=by
 unfold QmU at h
 cases h1:cs.any Qln<;>rw[h1] at h
 ·cases h
 cases h2:cs.any (QfW cs)<;>rw[h2] at h
 ·cases h3:QeH cs<;>rw[h3] at h
  ·cases h
  ·cases h4:cs.any (QfH cs)<;>rw[h4] at h
   ·cases h5:Qfb cs<;>rw[h5] at h
    ·cases h
    ·exact⟨rfl,rfl,rfl,rfl⟩
   ·cases h
 ·cases h
def cutK (w:Bs) (ls:List Bs):List (List Bs):=if Qc2 ls=0 then kind w (ls.map wsL) else []
structure KOk (w:Bs) (K:List (List Bs)):Prop where
 few:K.length≤999
 form:∀c∈K,LineF c
 head:∀c∈K,c.getD 0 []=w
 short:∀c∈K,∀x∈c,x.length≤24
theorem Qb9 {ls:List Bs} (h:Small ls) (w:Bs):KOk w (cutK w ls):=by
 unfold cutK;split
 ·rename_i hc;have hf:=h.few;have F:=(QfJ (J0 hc).1 (by omega)).forms;refine⟨?_,fun c hc=>F.form _ (ZG hc).1,fun c hc=>(ZG hc).2,fun c hc=>F.short _ (ZG hc).1⟩;have:=Qb4 (w:=w) (cs:=ls.map wsL);rw[List.length_map] at this;omega
 ·exact⟨by simp,by simp,by simp,by simp⟩
theorem Qja {ls:List Bs} (h:Small ls) (w:Bs):QY (ls.map tS) (tS w)=some ((cutK w ls).map mS):=by
 have hf:=h.few;unfold QY QdY cutK;rw[QvY h.len (by omega),Qb];show bd (some (Qc2 ls==0)) _=_;rw[Qb]
 by_cases hc:Qc2 ls=0
 ·have hn:=QfJ (J0 hc).1 (by omega);rw[if_pos hc,if_neg (by simp[hc]),Qdr hn.kept hn.few,Qb]
 ·rw[if_neg hc,if_pos (by simp[hc])]
  rfl
theorem QuB {w:Bs} (h:w.length≤24):Z8 (tS w)=some (pfN w):=by
 obtain⟨b,e⟩:=QxY h;unfold Z8;rw[e,Qb]
theorem Qok {w:Bs} (h:w.length≤24):Q5 (tS w)=some (ZB w):=Qpn (by omega)
theorem Qwd {w:Bs} (h:w.length≤24):Zs (tS w)=some (QT w):=QhK (by omega)
theorem KOk.at {w:Bs} {K:List (List Bs)} (h:KOk w K) {i:Nat} (hi:i<K.length):LineF (K.getD i [])∧(K.getD i []).getD 0 []=w∧∀k,((K.getD i []).getD k []).length≤24:=by
 have hm:=Qct hi;refine⟨h.form _ hm,h.head _ hm,fun k=>?_⟩
 by_cases hk:k<(K.getD i []).length
 ·exact h.short _ hm _ (Qat hk)
 ·have:(K.getD i []).getD k []=[]:=by rw[List.getD_eq_getElem?_getD,List.getElem?_eq_none (by omega)];rfl
  rw[this];simp
theorem Qy6 {K:List (List Bs)} {i:Nat} (hi:i<K.length):(0:Int)≤(i:Int)∧(i:Int)<(((K.map mS).length:Nat):Int):=by rw[List.length_map];omega
theorem Ql2 {c:List Bs} {k:Int} (n:Nat) (hk:k=(n:Int)) (h:n<c.length):(0:Int)≤k∧k<(((mS c).length:Nat):Int):=by unfold mS;rw[List.length_map];omega
theorem Qol (ls:List Bs):QpA ls=((cutK wRoute ls).map QlZ).foldl (insL Qir) []:=by
 unfold QpA cutK;split<;>rfl
theorem Qx8 {a b:QzW} (h:Qym a=Qym b):a=b:=by
 cases a;cases b
 unfold Qym at h;simp only[List.cons.injEq] at h;simp[h]
theorem QuC {xs:List QzW} (hl:xs.length≤100000) (hr:∀x∈xs,(-1000000≤x.Addr∧x.Addr≤1000000)∧(-1000000≤x.Len∧x.Len≤1000000)∧(-1000000≤x.Next∧x.Next≤1000000)):QI xs=some (xs.foldl (insL Qir) []):=by
 unfold QI;rw[Qc (by omega),Qc hr,Qc (show ∀x∈xs,∀y∈xs,[x.Addr,x.Len,x.Next]=[y.Addr,y.Len,y.Next]→x=y from fun x _ y _ h=>Qx8 h),QdK Quy]
 rfl
theorem Qfg {α:Type} [Inhabited α] (lt:α→α→Bool):∀(xs out:List α),(xs.foldl (insL lt) out).length=xs.length+out.length
 |[],out=>by simp
 |v::r,out=>by rw[List.foldl_cons,Qfg lt r,Qkf,List.length_cons];omega
theorem QsJ (c:List Bs):(-1000000≤(QlZ c).Addr∧(QlZ c).Addr≤1000000)∧(-1000000≤(QlZ c).Len∧(QlZ c).Len≤1000000)∧(-1000000≤(QlZ c).Next∧(QlZ c).Next≤1000000):=by
 have h1:=QpD (c.getD 1 []);have h2:=Qdd (c.getD 2 []);unfold QlZ;dsimp only;omega
theorem Qwe {ls:List Bs} (h:Small ls):QbD (ls.map tS)=some (QpA ls):=by
 rw[Qol];unfold QbD;rw[show QY (ls.map tS) ⟨#[114,111,117,116,101]⟩=_ from Qja h wRoute,Qb];have H:=Qb9 h wRoute;generalize cutK wRoute ls=K at H;have hf:=H.few;rw[Qet K.length (fun i=>QlZ (K.getD i [])) (fun a=>(a.length,a)) (fun i a hi ha=>?_) (fun a ha=>by dsimp only;rw[if_neg (by simp)]),Qb]
 ·have e:(List.range K.length).map (fun i=>QlZ (K.getD i []))=K.map QlZ:=QaO K QlZ;rw[e];dsimp only;rw[QuC (by simp only[List.length_map];omega) (fun x hx=>by obtain⟨c,_,rfl⟩:=List.mem_map.1 hx;exact QsJ c),Qb,Qc (by rw[Qfg];simp)]
 ·obtain⟨h1,h2,h3⟩:=H.at hi;have hq:=QqJ h1 h2;dsimp only;rw[if_pos (by simp;omega),Qc (Qy6 hi),Int.toNat_natCast,Qc3 hi,Qc (Ql2 (k:=1) 1 rfl (by omega)),QaP (by omega),QuB (h3 1),Qb,Qc (Ql2 (k:=2) 2 rfl (by omega)),QaP (by omega),Qwd (h3 2),Qb,Qc (by simp only[List.length_cons,List.length_nil];omega),Qk hi (by omega)]
  rfl
theorem Qis (ls:List Bs):Qff ls=((cutK wPeer ls).map QfK).foldl (insL Qfe) []:=by
 unfold Qff cutK;split<;>rfl
theorem Qm0 {ls:List Bs} (h:Small ls):(cutK wPeer ls).Pairwise fun c d=>QT (c.getD 1 [])≠QT (d.getD 1 []):=by
 unfold cutK;split
 ·rename_i hc;have hf:=h.few;exact QqQ (J0 hc).1 (by omega)
 ·exact .nil
theorem QuD {α:Type} {K:List (List Bs)} {g:List Bs→α} {ks:α→List Int} (h:K.Pairwise fun c d=>ks (g c)≠ks (g d)):∀x∈K.map g,∀y∈K.map g,ks x=ks y→x=y:=by
 refine Qgt (R:=fun x y=>ks x=ks y→x=y) (fun x y h e=>(h e.symm).symm) (fun _ _=>rfl) ?_;rw[List.pairwise_map];exact h.imp fun {c d} hne e=>absurd e hne
theorem QsK {xs:List QzX} (hl:xs.length≤100000) (hr:∀x∈xs,(-1000000≤x.Addr∧x.Addr≤1000000)) (ht:∀x∈xs,∀y∈xs,Qi9 x=Qi9 y→x=y):QF xs=some (xs.foldl (insL Qfe) []):=by
 unfold QF;rw[Qc (by omega),Qc hr,Qc (show ∀x∈xs,∀y∈xs,[x.Addr]=[y.Addr]→x=y from ht),QdK Qoh]
 rfl
theorem QuE {ls:List Bs} (h:Small ls):Qa5 (ls.map tS)=some (Qff ls):=by
 rw[Qis];unfold Qa5;rw[show QY (ls.map tS) ⟨#[112,101,101,114]⟩=_ from Qja h wPeer,Qb];have H:=Qb9 h wPeer;have A:=Qm0 h;generalize cutK wPeer ls=K at H A;have hf:=H.few;rw[Qet K.length (fun i=>QfK (K.getD i [])) (fun a=>(a.length,a)) (fun i a hi ha=>?_) (fun a ha=>by dsimp only;rw[if_neg (by simp)]),Qb]
 ·have e:(List.range K.length).map (fun i=>QfK (K.getD i []))=K.map QfK:=QaO K QfK;rw[e];dsimp only;rw[QsK (by simp only[List.length_map];omega) (fun x hx=>by
   obtain⟨c,_,rfl⟩:=List.mem_map.1 hx;have:=Qdd (c.getD 1 []);show-1000000≤QT (c.getD 1 [])∧QT (c.getD 1 [])≤1000000;omega) (QuD (A.imp fun {c d} hne e=>hne (by simpa[Qi9,QfK] using e))),Qb,Qc (by rw[Qfg];simp)]
 ·obtain⟨h1,h2,h3⟩:=H.at hi;have hq:=Qpy h1 h2;dsimp only;rw[if_pos (by simp;omega),Qc (Qy6 hi),Int.toNat_natCast,Qc3 hi,Qc (Ql2 (k:=1) 1 rfl (by omega)),QaP (by omega),Qwd (h3 1),Qb,Qc (Ql2 (k:=2) 2 rfl (by omega)),QaP (by omega),Qok (h3 2),Qb,Qc (Ql2 (k:=3) 3 rfl (by omega)),QaP (by omega),Qok (h3 3),Qb,Qc (by simp only[List.length_cons,List.length_nil];omega),Qk hi (by omega)]
  rfl
theorem QpE {ls:List Bs} (h:Small ls):JC (ls.map tS)=some ((cutK wPort ls).map QdH):=by
 unfold JC;rw[show QY (ls.map tS) ⟨#[112,111,114,116]⟩=_ from Qja h wPort,Qb];have H:=Qb9 h wPort;generalize cutK wPort ls=K at H;have hf:=H.few;rw[Qet K.length (fun i=>QdH (K.getD i [])) (fun a=>(a.length,a)) (fun i a hi ha=>?_) (fun a ha=>by dsimp only;rw[if_neg (by simp)]),Qb]
 ·exact congrArg some (QaO K QdH)
 ·obtain⟨h1,h2,h3⟩:=H.at hi;have hq:=(Qhb h1 h2).2;have h4:2<(K.getD i []).length:=by omega
  dsimp only;rw[if_pos (by simp;omega),Qc (Qy6 hi),Int.toNat_natCast,Qc3 hi,Qc (Ql2 (k:=2) 2 rfl (by omega)),QaP (by omega),QuB (h3 2),Qb,Qc (Ql2 (k:=1) 1 rfl (by omega)),QaP (by omega),Qok (h3 1),Qb];have e:decide ((((mS (K.getD i [])).length:Nat):Int)>4)=decide (4<(K.getD i []).length):=by
   unfold mS;rw[List.length_map,decide_eq_decide];omega
  rw[e]
  by_cases hl:4<(K.getD i []).length
  ·rw[decide_eq_true hl,if_pos rfl,Qc (Ql2 (k:=4) 4 rfl hl),QaP hl,Qc (by simp only[List.length_cons,List.length_nil];omega),Qk hi (by omega)]
   rfl
  ·have e4:(K.getD i []).getD 4 []=[]:=by rw[List.getD_eq_getElem?_getD,List.getElem?_eq_none (by omega)];rfl
   rw[decide_eq_false hl,if_neg (by decide),Qc (by simp only[List.length_cons,List.length_nil];omega),Qk hi (by omega)];unfold QdH;rw[e4]
   rfl
theorem QuF (ls:List Bs):QsH ls=match cutK wNat ls with|[]=>(QrK,false)|c::_=>(QhN c (((cutK wDoor ls).map Qb6).foldl (insL QdG) []),true):=by
 unfold QsH cutK;split<;>rfl
theorem Qm1 {ls:List Bs} (h:Small ls):(cutK wDoor ls).Pairwise fun c d=>¬(ZB (c.getD 1 [])=ZB (d.getD 1 [])∧ZB (c.getD 2 [])=ZB (d.getD 2 [])):=by
 unfold cutK;split
 ·rename_i hc;have hf:=h.few;exact QqR (J0 hc).1 (by omega)
 ·exact .nil
theorem QsL {xs:List QzY} (hl:xs.length≤100000) (hr:∀x∈xs,(-1000000≤x.Kind∧x.Kind≤1000000)∧(-1000000≤x.Outer∧x.Outer≤1000000)) (ht:∀x∈xs,∀y∈xs,QdJ x=QdJ y→x=y):QK xs=some (xs.foldl (insL QdG) []):=by
 unfold QK;rw[Qc (by omega),Qc hr,Qc (show ∀x∈xs,∀y∈xs,[x.Kind,x.Outer]=[y.Kind,y.Outer]→x=y from ht),QdK Qoi]
 rfl
theorem Qx9 {ls:List Bs} (h:Small ls):Qcl (ls.map tS)=some (QsH ls):=by
 rw[QuF];unfold Qcl;rw[show QY (ls.map tS) ⟨#[110,97,116]⟩=_ from Qja h wNat,Qb];have H:=Qb9 h wNat
 generalize cutK wNat ls=Z at H
 cases Z with
 |nil=>rfl
 |cons c r=>
  rw[if_neg (by simp;omega)];obtain⟨h1,h2,h3⟩:=H.at (i:=0) (by simp);have hq:=QxX h1 h2;have e0:(c::r).getD 0 []=c:=rfl;rw[e0] at hq h3;have em:((c::r).map mS).getD 0 default=mS c:=rfl;rw[Qc (by rw[List.length_map,List.length_cons];omega),em,Qc (Ql2 (k:=1) 1 rfl (by omega)),QaP (by omega),QuB (h3 1),Qb,Qc (Ql2 (k:=2) 2 rfl (by omega)),QaP (by omega),Qwd (h3 2),Qb,Qc (Ql2 (k:=3) 3 rfl (by omega)),QaP (by omega),Qok (h3 3),Qb,Qc (Ql2 (k:=4) 4 rfl (by omega)),QaP (by omega),Qok (h3 4),Qb];rw[show QY (ls.map tS) ⟨#[100,111,111,114]⟩=_ from Qja h wDoor,Qb];have D:=Qb9 h wDoor;have A:=Qm1 h;generalize cutK wDoor ls=K at D A;have hf:=D.few;rw[Qet K.length (fun i=>Qb6 (K.getD i [])) (fun a=>(a,a.length)) (fun i a hi ha=>?_) (fun a ha=>by dsimp only;rw[if_neg (by simp)]),Qb]
  ·have e:(List.range K.length).map (fun i=>Qb6 (K.getD i []))=K.map Qb6:=QaO K Qb6;rw[e];dsimp only;rw[QsL (by simp only[List.length_map];omega) (fun x hx=>by
    obtain⟨c,_,rfl⟩:=List.mem_map.1 hx;have h1:=QmM (c.getD 1 []);have h2:=QmM (c.getD 2 []);show(-1000000≤ZB (c.getD 1 [])∧ZB (c.getD 1 [])≤1000000)∧(-1000000≤ZB (c.getD 2 [])∧ZB (c.getD 2 [])≤1000000);omega) (QuD (A.imp fun {c d} hne e=>hne (by simpa[QdJ,Qb6] using e))),Qb,Qc (by rw[Qfg];simp)]
   rfl
  ·obtain⟨h1,h2,h3⟩:=D.at hi;have hq:=QmV h1 h2;dsimp only;rw[if_pos (by simp;omega),Qc (Qy6 hi),Int.toNat_natCast,Qc3 hi,Qc (Ql2 (k:=1) 1 rfl (by omega)),QaP (by omega),Qok (h3 1),Qb,Qc (Ql2 (k:=2) 2 rfl (by omega)),QaP (by omega),Qok (h3 2),Qb,Qc (Ql2 (k:=3) 3 rfl (by omega)),QaP (by omega),Qwd (h3 3),Qb,Qc (Ql2 (k:=4) 4 rfl (by omega)),QaP (by omega),Qok (h3 4),Qb,Qc (by simp only[List.length_cons,List.length_nil];omega),Qk hi (by omega)]
   rfl
theorem QpF (ls:List Bs):QjA ls=(((cutK wPort ls).map QdH).map Ql0).foldl Qov []:=by
 unfold QjA cutK;split<;>rfl
theorem QsM {ls:List Bs} (h:Small ls):(cutK wPort ls).Pairwise fun c d=>pv c≠pv d:=by
 unfold cutK;split
 ·rename_i hc;have hf:=h.few;exact QqT (J0 hc).1 (by omega) (Qeu (J0 hc).2).2.1
 ·exact .nil
theorem QpG {c:List Bs} (h:LineF c) (hw:c.getD 0 []=wPort):QaQ (Ql0 (QdH c))=[(pv c).1,((pv c).2:Int)]:=by
 have:=(QdR h hw).2.1;unfold QaQ Ql0 QdH;dsimp only;rw[this]
 rfl
theorem Qls {ls:List Bs} (h:Small ls):(((cutK wPort ls).map QdH).map Ql0).Pairwise fun x y=>QaQ x≠QaQ y:=by
 have H:=Qb9 h wPort;rw[List.pairwise_map,List.pairwise_map];refine(QsM h).imp_of_mem fun {c d} hc hd hne e=>hne ?_;rw[QpG (H.form _ hc) (H.head _ hc),QpG (H.form _ hd) (H.head _ hd)] at e;simp only[List.cons.injEq] at e;exact Prod.ext e.1 (by omega)
theorem QsN {xs:List Qz3} (hl:xs.length≤100000) (hr:∀x∈xs,(-1000000≤x.Addr∧x.Addr≤1000000)∧(-1000000≤x.Len∧x.Len≤1000000)) (ht:xs.Pairwise fun x y=>QaQ x≠QaQ y):Qp xs=some (xs.foldl Qov []):=by
 unfold Qp;have ht':∀x∈xs,∀y∈xs,QaQ x=QaQ y→x=y:=Qgt (R:=fun x y=>QaQ x=QaQ y→x=y) (fun x y h e=>(h e.symm).symm) (fun _ _=>rfl) (ht.imp fun {x y} hne e=>absurd e hne);rw[Qc (by omega),Qc hr,Qc (show ∀x∈xs,∀y∈xs,[x.Addr,x.Len]=[y.Addr,y.Len]→x=y from ht'),QmX ht]
 rfl
theorem QpH:∀(xs out:List Qz3),xs.Pairwise (fun x y=>QaQ x≠QaQ y)→(∀x∈out,∀y∈xs,QaQ x≠QaQ y)→(xs.foldl Qov out).length=xs.length+out.length
 |[],out,_,_=>by simp
 |v::r,out,hp,ho=>by
  obtain⟨h1,h2⟩:=List.pairwise_cons.1 hp;rw[List.foldl_cons,QrN fun x hx=>ho x hx v (by simp),QpH r _ h2 fun x hx y hy=>?_,Qkf,List.length_cons]
  ·omega
  ·rcases Qoj (lt:=tellLt) hx with rfl|hx
   ·exact h1 y hy
   ·exact ho x hx y (by simp[hy])
theorem QpI {ls:List Bs} (h:Small ls):Qa9 (ls.map tS)=some (QjA ls):=by
 rw[QpF];unfold Qa9;rw[QpE h,Qb];have A:=Qls h;have H:=Qb9 h wPort;have hf:=H.few;have hr:∀x∈((cutK wPort ls).map QdH).map Ql0,(-1000000≤x.Addr∧x.Addr≤1000000)∧(-1000000≤x.Len∧x.Len≤1000000):=fun x hx=>by
  obtain⟨p,hp,rfl⟩:=List.mem_map.1 hx;obtain⟨c,_,rfl⟩:=List.mem_map.1 hp;have:=QpD (c.getD 2 []);show(-1000000≤(pfN (c.getD 2 [])).Addr∧(pfN (c.getD 2 [])).Addr≤1000000)∧(-1000000≤(pfN (c.getD 2 [])).Len∧(pfN (c.getD 2 [])).Len≤1000000);omega
 have hl:((cutK wPort ls).map QdH).length≤999:=by rw[List.length_map];exact hf
 generalize (cutK wPort ls).map QdH=ps at A hr hl;rw[Qet ps.length (fun i=>Ql0 (ps.getD i default)) (fun a=>(a.length,a)) (fun i a hi ha=>?_) (fun a ha=>by dsimp only;rw[if_neg (by simp)]),Qb]
 ·have e:(List.range ps.length).map (fun i=>Ql0 (ps.getD i default))=ps.map Ql0:=QaO ps Ql0;rw[e];dsimp only;rw[QsN (by rw[List.length_map];omega) hr A,Qb,Qc (by rw[QpH _ _ A (by simp)];simp)]
 ·dsimp only;rw[if_pos (by simp;omega),Qc (by omega),Qc (by simp only[List.length_cons,List.length_nil];omega),Int.toNat_natCast,Qk hi (by omega)]
  rfl
theorem QsO {ls:List Bs} (h:Small ls):QaT (ls.map tS)=some (QjA ls):=QpI h
theorem QpJ (ls:List Bs) (l:Bs):Qjz ls l=Qjy l (cutK wRule ls) 100:=by
 unfold Qjz cutK;split
 ·rfl
 ·rw[QmY];simp
theorem Qm2 {ls:List Bs} (h:Small ls):(cutK wRule ls).Pairwise fun c d=>¬(c.getD 1 []=d.getD 1 []∧Qdf c=Qdf d):=by
 unfold cutK;split
 ·rename_i hc;have hf:=h.few;exact QqS (J0 hc).1 (by omega)
 ·exact .nil
theorem Qm3 {w:Bs} (h:0≤ZB w):w.length≤6:=by
 unfold ZB at h;split at h
 ·rename_i h1;exact h1.2
 ·omega
theorem Qwf {w:Bs} (h:0≤ZB w):QhQ (tS w)=ZB w:=by rw[Qt8,QnY (Qm3 h)]
theorem Qya {K:List (List Bs)} (l:Bs) (hl:K.length≤1000) (h:∀c∈K,1<c.length):Qy (K.map mS) (tS l)=some ((K.filter fun c=>c.getD 1 []==l).map mS):=by
 have e:Qy (K.map mS) (tS l)=QyO (fun x=>Jx x (tS l)) (K.map mS):=rfl;rw[e,Qt0 (p:=fun x=>!(x.getD 1 default==tS l)) (fun x hx=>?_) (by rw[List.length_map];omega)]
 ·rw[List.filter_map];refine congrArg some (congrArg (List.map mS) (List.filter_congr fun c hc=>?_));show(!!((mS c).getD 1 default==tS l))=_;rw[QaP (h c hc),Bool.not_not,Z2]
 ·obtain⟨c,hc,rfl⟩:=List.mem_map.1 hx;unfold Jx;rw[Qc (Ql2 (k:=1) 1 rfl (h c hc))]
theorem Qyb {K:List (List Bs)} (hl:K.length≤1000) (h:∀c∈K,2<c.length∧0≤Qdf c∧Qdf c<100) (hp:K.Pairwise fun c d=>Qdf c≠Qdf d):QJ (K.map mS)=some ((sortS (fun c d=>kLt [Qdf c] [Qdf d]) K).map mS):=by
 have hw:∀c∈K,QhQ ((mS c).getD 2 default)=Qdf c:=fun c hc=>by
  rw[QaP (h c hc).1];exact Qwf (h c hc).2.1
 unfold QJ;rw[Qc (by rw[List.length_map];omega),Qc (fun x hx=>?_),Qc (fun i j hi hj e=>?_),Quz]
 ·refine congrArg some (congrArg (List.map mS) (QqV fun c hc d hd=>?_));show kLt [QhQ ((mS c).getD 2 default)] [QhQ ((mS d).getD 2 default)]=_;rw[hw c hc,hw d hd]
 ·rw[List.length_map] at hi hj;rw[Qc3 hi,Qc3 hj,hw _ (Qct hi),hw _ (Qct hj)] at e;have e:Qdf (K.getD i [])=Qdf (K.getD j []):=by simpa using e
  have key:=List.pairwise_iff_getElem.1 hp;rw[List.getD_eq_getElem?_getD,List.getD_eq_getElem?_getD,List.getElem?_eq_getElem hi,List.getElem?_eq_getElem hj] at e;rcases Nat.lt_trichotomy i j with q|q|q
  ·exact absurd e (key i j hi hj q)
  ·exact q
  ·exact absurd e.symm (key j i hj hi q)
 ·obtain⟨c,hc,rfl⟩:=List.mem_map.1 hx;have h1:=h c hc;have h2:(c.getD 2 []).length≤6:=Qm3 h1.2.1;refine⟨by unfold mS;rw[List.length_map];exact h1.1,?_,?_⟩
  ·rw[QaP h1.1];exact h2
  ·rw[hw c hc];omega
theorem QuG {ls:List Bs} (h:Small ls) (l:Bs):Qa4 (ls.map tS) (tS l)=some (Qjz ls l):=by
 rw[QpJ];unfold Qa4;rw[show QY (ls.map tS) ⟨#[114,117,108,101]⟩=_ from Qja h wRule,Qb];have H:=Qb9 h wRule;have A:=Qm2 h;generalize cutK wRule ls=K at H A;have hf:=H.few;have hF:∀c∈K,c.length=7∧0≤Qdf c∧Qdf c<100:=fun c hc=>by
  have hq:=Qjx (H.form c hc) (H.head c hc);have:=Ja hq.2.1;unfold Qdf;omega
 rw[Qya l (by omega) (fun c hc=>by have:=(hF c hc).1;omega),Qb,QmZ l (fun c hc=>(hF c hc).2) A];have hK2:∀c∈K.filter (fun c=>c.getD 1 []==l),c∈K:=fun c hc=>(List.mem_filter.1 hc).1;have hl2:(K.filter fun c=>c.getD 1 []==l).length≤999:=Nat.le_trans (List.length_filter_le _ _) hf;have hp2:(K.filter fun c=>c.getD 1 []==l).Pairwise fun c d=>Qdf c≠Qdf d:=(A.filter _).imp_of_mem fun {c d} hc hd hn e=>by
  have h1:c.getD 1 []=l:=by simpa using (List.mem_filter.1 hc).2
  have h2:d.getD 1 []=l:=by simpa using (List.mem_filter.1 hd).2
  exact hn ⟨h1.trans h2.symm,e⟩
 generalize K.filter (fun c=>c.getD 1 []==l)=K2 at hK2 hl2 hp2;rw[Qyb (by omega) (fun c hc=>by have:=hF c (hK2 c hc);omega) hp2,Qb];have hm:∀c∈sortS (fun c d=>kLt [Qdf c] [Qdf d]) K2,c∈K:=fun c hc=>hK2 c ((QaN _ K2).mem_iff.1 hc);have hl3:(sortS (fun c d=>kLt [Qdf c] [Qdf d]) K2).length=K2.length:=Qgn _ _;generalize sortS (fun c d=>kLt [Qdf c] [Qdf d]) K2=S at hm hl3;rw[Qc (by rw[List.length_map,List.length_map,hl3])];rw[Qet S.length (fun i=>Ql1 (S.getD i [])) (fun a=>(a.length,a)) (fun i a hi ha=>?_) (fun a ha=>by dsimp only;rw[if_neg (by rw[List.length_map,←hl3];simp)]),Qb]
 ·exact congrArg some (QaO S Ql1)
 ·have hc:=hm _ (Qct hi);have h1:=H.form _ hc;have h2:=H.head _ hc;have h3:∀k,((S.getD i []).getD k []).length≤24:=fun k=>by
   by_cases hk:k<(S.getD i []).length
   ·exact H.short _ hc _ (Qat hk)
   ·have:(S.getD i []).getD k []=[]:=by rw[List.getD_eq_getElem?_getD,List.getElem?_eq_none (by omega)];rfl
    rw[this];simp
  have hq:=(hF _ hc).1;dsimp only;rw[if_pos (by rw[List.length_map,←hl3];simp;omega),Qc (by rw[List.length_map,←hl3];omega),Int.toNat_natCast,Qc3 hi,Qc (Ql2 (k:=3) 3 rfl (by omega)),QaP (by omega),Qc (Ql2 (k:=4) 4 rfl (by omega)),QaP (by omega),QuB (h3 4),Qb,Qc (Ql2 (k:=5) 5 rfl (by omega)),QaP (by omega),QuB (h3 5),Qb,Qc (Ql2 (k:=6) 6 rfl (by omega)),QaP (by omega),Qok (h3 6),Qb,Qc (by simp only[List.length_cons,List.length_nil];omega),Qk hi (by omega),show(tS ((S.getD i []).getD 3 [])==(⟨#[112,101,114,109,105,116]⟩:Bt))=_ from Z2 _ QeS]
  rfl
def QbU (len:Int):Int:=2^(16-len).toNat
theorem QfM (len:Int):0<QbU len:=by unfold QbU;exact Int.pow_pos (by omega)
theorem Qm4 {len:Int} (h:0≤len):QbU len≤65536:=by
 unfold QbU;have:=Qxi (a:=(16-len).toNat) (b:=16) (by omega);simpa using this
def Qd7 (p:QzU):Bool:=decide (0≤p.Len)&&decide (p.Len≤16)&&decide (0≤p.Addr)&&decide (p.Addr≤65535)&&(p.Addr.tmod (QbU p.Len)==0)
def Qm5 (p:QzU) (a:Int):Bool:=decide (p.Addr≤a)&&decide (a<p.Addr+QbU p.Len)
theorem Qjb {p:QzU} (h:Qd7 p=true):0≤p.Len∧p.Len≤16∧0≤p.Addr∧p.Addr≤65535:=by
 simp[Qd7] at h;omega
@[simp] theorem Qds (a lo hi:Int):Qw a lo hi=some (decide (lo≤a) && decide (a≤hi)):=rfl
theorem QwV {p:QzU} (h0:0≤p.Len) (h1:p.Len≤16):Zd p=some (QbU p.Len):=by
 have e:IntKind.i64.wrap (16-p.Len)=16-p.Len:=Qs (by omega) (by omega);have hb:IntKind.bits .i64=64:=rfl;unfold Zd;rw[e,Qc (by omega),hb,Nat.min_eq_left (by omega),Int.one_mul];have h:=Qm4 h0;have hp:=QfM p.Len;unfold QbU at*;rw[Qs (by omega) (by omega)]
theorem Qom (p:QzU):JU p=some (Qd7 p):=by
 unfold JU;simp only[Qds,Qb]
 by_cases h:0≤p.Len∧p.Len≤16
 ·have hs:=QwV h.1 h.2;have hp:=QfM p.Len;rw[show(decide (0≤p.Len)&&decide (p.Len≤16))=true by simp[h]];simp only[Qt,Bool.true_and,if_true,Qb,hs]
  by_cases h2:(decide (0≤p.Addr)&&decide (p.Addr≤65535))=true
  ·rw[if_pos h2,Qb,Qc (fun _=>by omega),h2];simp at h2;simp[Qd7,h,h2]
  ·rw[if_neg h2,Qb,Qc (fun h=>absurd h h2)];simp at h2;simp[Qd7,h]
   grind
 ·rw[show(decide (0≤p.Len)&&decide (p.Len≤16))=false by simp;omega];simp[Qt,gd,Qd7]
  grind
theorem QzA {p:QzU} (h:Qd7 p=true) (a:Int):QX p a=some (Qm5 p a):=by
 obtain⟨h1,h2,h3,h4⟩:=Qjb h;have hs:=Qm4 h1;have hp:=QfM p.Len;unfold QX Js;rw[QwV h1 h2];simp only[Qb,Qds];rw[Qs (n:=p.Addr+QbU p.Len) (by omega) (by omega),Qs (by omega) (by omega)];simp[Qm5]
 grind
@[reducible] def Qz0.net (b:Qz0):QzU:=⟨b.Addr,b.Len⟩
def Qz0.inside (b:Qz0) (a:Int):Bool:=Qm5 b.net a
theorem Qgu {b:Qz0} (h:Qd7 b.net=true) (a:Int):Zu b a=some (b.inside a):=by
 unfold Zu;rw[QzA h];rfl
def Qz0.frameOk (b:Qz0):Bool:=Qd7 b.net&&decide (0≤b.Own)&&decide (b.Own≤65535)&& !b.inside b.Own&&decide (1≤b.Low)&&decide (b.Low≤b.High)&&decide (b.High≤65535)&&decide (0≤b.Now)&&decide (b.Now≤1000000)
theorem QpK {b:Qz0} (h:b.frameOk=true):Qd7 b.net=true∧0≤b.Now∧b.Now≤1000000:=by
 simp[Qz0.frameOk] at h;exact⟨by simp[h],by omega,by omega⟩
def Qit (b:Qz0) (d:QzY):Bool:=decide (1≤d.Kind)&&decide (d.Kind≤7)&&decide (1≤d.Outer)&&decide (d.Outer≤65535)&& !(decide (b.Low≤d.Outer)&&decide (d.Outer≤b.High))&&b.inside d.Inner&&decide (1≤d.InnerPort)&&decide (d.InnerPort≤65535)
def Qc4 (e d:QzY):Bool:=decide (e.Kind<d.Kind)||(e.Kind==d.Kind&&decide (e.Outer<d.Outer))
def Jb (e d:QzY):Bool:=e.Kind==d.Kind&&(e.Inner==d.Inner&&e.InnerPort==d.InnerPort)
def QgJ (e d:QzY):Bool:=Qc4 e d&& !Jb e d
def Qm6 (b:Qz0) (i:Nat):Bool:=Qit b (b.Doors.getD i default)&&J5 i fun k=>QgJ (b.Doors.getD k default) (b.Doors.getD i default)
def Qz0.doorsOk (b:Qz0):Bool:=decide (b.Doors.length≤6)&&J5 b.Doors.length (Qm6 b)
theorem QpL (a b:Int):ZA a b=some (Qg8 a b):=by
 unfold ZA QbI Qg8;simp
 grind
theorem QzN {xs:List Int} (h:xs.length≤1000):QcF xs=some (Qeq xs):=by
 unfold QcF;rw[Qqs xs.length (fun i=>if xs.getD i default≠0 then some (.inl (xs.getD i default)) else none) (.inr ()) (fun i hi=>?_) (by rw[if_neg (by simp)])]
 ·have key:∀(k i:Nat),i+k=xs.length→QeR (fun i=>if xs.getD i default≠0 then some (Sum.inl (β:=Unit) (xs.getD i default)) else none) i k=if Qeq (xs.drop i)=0 then none else some (.inl (Qeq (xs.drop i))):=by
   intro k
   induction k with
   |zero=>intro i hi;rw[List.drop_of_length_le (by omega)];simp[QeR,Qeq]
   |succ k ih=>
    intro i hi;have hlt:i<xs.length:=by omega
    have e:xs.drop i=xs[i]::xs.drop (i+1):=List.drop_eq_getElem_cons hlt;have e2:xs.getD i default=xs[i]:=by simp[List.getD_eq_getElem?_getD,hlt]
    unfold QeR;rw[e,Qeq,e2]
    by_cases h0:xs[i]=0
    ·simp only[h0,ne_eq,not_true_eq_false,if_false,if_true];exact ih (i+1) (by omega)
    ·simp[h0]
  rw[key xs.length 0 (by omega),List.drop_zero,Qb]
  by_cases h0:Qeq xs=0<;>simp[h0]
 ·rw[if_pos (by simp;omega),Qc (by omega),Qk hi (by omega)];simp only[Int.toNat_natCast]
  by_cases h0:xs.getD i default=0
  ·rw[h0];simp
  ·rw[if_pos (by simpa using h0),if_pos h0]
theorem QpM (e d:QzY):decide (Qeq [Qg8 e.Kind d.Kind,Qg8 e.Outer d.Outer]≥0)=!Qc4 e d:=by
 simp[Qc4,Qeq,Qg8]
 grind
theorem Ql3 {a b c:QzY} (h:Qc4 a b=true) (k:Qc4 b c=true):Qc4 a c=true:=by
 simp[Qc4] at*
 grind
def QeT (b:Qz0) (i:Nat):Bool:=Qit b (b.Doors.getD i default)&&(decide (i=0)||Qc4 (b.Doors.getD (i-1) default) (b.Doors.getD i default))&&J5 i fun k=>!Jb (b.Doors.getD k default) (b.Doors.getD i default)
theorem QsP (b:Qz0) (n:Nat):J5 n (QeT b)=J5 n (Qm6 b):=by
 rw[Bool.eq_iff_iff]
 constructor
 ·intro h;refine Qax fun i hi=>?_;have h1:∀i,i<n→QeT b i=true:=fun i hi=>QeG h hi;have hc:=Qzs (r:=Qc4) Ql3 (f:=fun k=>b.Doors.getD k default) (n:=n) (fun i h0 hi=>by
   have:=h1 i hi;simp[QeT] at this;have e:¬i=0:=by omega
   simpa[e] using this.1.2) i hi
  have h2:=h1 i hi;unfold QeT at h2;unfold Qm6;rw[Bool.and_eq_true,Bool.and_eq_true] at h2;rw[h2.1.1,Bool.true_and];refine Qax fun k hk=>?_;have h3:=QeG h2.2 hk;unfold QgJ;rw[hc k hk,h3];rfl
 ·intro h;refine Qax fun i hi=>?_;have h2:=QeG h hi;unfold Qm6 at h2;unfold QeT;rw[Bool.and_eq_true] at h2;have h4:J5 i (fun k=>!Jb (b.Doors.getD k default) (b.Doors.getD i default))=true:=Qax fun k hk=>by
   have:=QeG h2.2 hk;unfold QgJ at this;rw[Bool.and_eq_true] at this;exact this.2
  rw[h2.1,h4]
  by_cases e:i=0
  ·simp[e]
  ·have:=QeG h2.2 (show i-1<i by omega);unfold QgJ at this;rw[Bool.and_eq_true] at this;rw[this.1];simp
theorem QqW {b:Qz0} (h:Qd7 b.net=true) (hl:b.Doors.length≤9223372036854775807):Jg b=some b.doorsOk:=by
 unfold Jg;rw[Qb7 b.Doors.length (QeT b) (.inl ()) (.inr ()) (fun i hi _=>?_) (fun _=>by rw[if_neg (by simp)]),QsP]
 ·have e:decide ((b.Doors.length:Int)≤6)=decide (b.Doors.length≤6):=decide_eq_decide.2 (by omega)
  cases ha:J5 b.Doors.length (Qm6 b)<;>simp[Qz0.doorsOk,ha,e]
 ·rw[if_pos (by simp;omega),Qc (by omega)];simp only[Qds,Qgu h,Qb,Qd5,Int.toNat_natCast];split
  ·rename_i hC;have h1:Qit b (b.Doors.getD i default)=false:=by
    unfold Qit
    grind
   simp only[QeT,h1,Bool.false_and,Bool.false_eq_true,if_false]
  ·rename_i hC;have h1:Qit b (b.Doors.getD i default)=true:=by
    unfold Qit
    grind
   clear hC;have hin:∀n:Nat,n=i→lp (σ:=Int) (β:=Unit⊕Unit) (fun s17=>
     (if(decide (s17<((n:Nat):Int)))=true then
     gd ((0:Int)≤s17∧s17<((n:Nat):Int))<|
     (if((((b.Doors.getD s17.toNat default).Kind==(b.Doors.getD i default).Kind)&&((b.Doors.getD s17.toNat default).Inner==(b.Doors.getD i default).Inner))&&((b.Doors.getD s17.toNat default).InnerPort==(b.Doors.getD i default).InnerPort))=true then
     some (.inr (.inl ()))
     else
     some (.inl (IntKind.i64.wrap (s17+1))))
     else
     some (.inr (.inr ())))) 0=some (if J5 i (fun k=>!Jb (b.Doors.getD k default) (b.Doors.getD i default))=true then .inr () else .inl ()):=by
    rintro n rfl;refine Qb7 n _ _ _ (fun k hk _=>?_) (fun _=>by rw[if_neg (by simp)]);rw[if_pos (by simp;omega),Qc (by omega),Qk hk (by omega)];simp only[Int.toNat_natCast]
    cases hp:Jb (b.Doors.getD k default) (b.Doors.getD n default)
    ·rw[if_neg]
     ·rfl
     ·unfold Jb at hp
      grind
    ·rw[if_pos]
     ·rfl
     ·unfold Jb at hp
      grind
   by_cases h0:i=0
   ·have e0:decide ((i:Int)>0)=false:=by simp;omega
    simp only[e0,Bool.false_eq_true,Qt,if_false,Qb,Bool.false_and];have e1:decide (i=0)=true:=by simp[h0]
    rw[Qc (fun h=>by cases h),Qc (fun h=>by cases h),Qc (by omega),hin _ rfl,Qk hi hl]
    cases ha:J5 i (fun k=>!Jb (b.Doors.getD k default) (b.Doors.getD i default))<;>simp only[QeT,h1,e1,ha,Qb,Bool.true_or,Bool.and_self,Bool.and_true,Bool.and_false,Bool.false_eq_true,if_true,if_false]
   ·have e0:decide ((i:Int)>0)=true:=by simp;omega
    have hw:=Qdv hi (by omega) hl;simp only[e0,Qt,if_true,Qb,Bool.true_and,hw,Int.toNat_natCast,QpL,QzN (xs:=[_,_]) (by simp),QpM];rw[Qc (fun _=>by omega),Qc (fun _=>by omega)];have e1:decide (i=0)=false:=by simp[h0]
    cases h2:Qc4 (b.Doors.getD (i-1) default) (b.Doors.getD i default)
    ·simp only[QeT,h1,h2,e1,Bool.not_false,if_true,Bool.or_self,Bool.and_false,Bool.false_and,Bool.false_eq_true,if_false]
    ·simp only[Bool.not_true,Bool.false_eq_true,if_false];rw[Qc (by omega),hin _ rfl,Qk hi hl]
     cases ha:J5 i (fun k=>!Jb (b.Doors.getD k default) (b.Doors.getD i default))<;>simp only[QeT,h1,h2,e1,ha,Qb,Bool.or_true,Bool.and_self,Bool.and_true,Bool.and_false,Bool.false_eq_true,if_true,if_false]
@[reducible] def QzZ.flow (e:QzZ):Qz1:=⟨e.Kind,e.Inner,e.InnerPort,e.Peer,e.PeerPort⟩
def Qlt (b:Qz0) (e:QzZ):Bool:=decide (1≤e.Kind)&&decide (e.Kind≤7)&&decide (0≤e.Peer)&&decide (e.Peer≤65535)&& !b.inside e.Peer&& !(e.Peer==b.Own)&&decide (1≤e.PeerPort)&&decide (e.PeerPort≤65535)&&
 decide (b.Low≤e.Outer)&&decide (e.Outer≤b.High)&&b.inside e.Inner&&decide (1≤e.InnerPort)&&decide (e.InnerPort≤65535)&&decide (0≤e.Last)&&decide (e.Last≤b.Now)&&decide (b.Now-e.Last<12)
def Qiu (e f:QzZ):Bool:=decide (e.Kind<f.Kind)||(e.Kind==f.Kind&&(decide (e.Peer<f.Peer)||(e.Peer==f.Peer&&(decide (e.PeerPort<f.PeerPort)||(e.PeerPort==f.PeerPort&&decide (e.Outer<f.Outer))))))
def QuH (a b:Qz1):Bool:=a.Kind==b.Kind&&a.From==b.From&&a.FromPort==b.FromPort&&a.To==b.To&&a.ToPort==b.ToPort
@[simp] theorem Qm7 (e:QzZ):ZD e=some e.flow:=rfl
def ageW (b:Qz0) (e:QzZ):Int:=IntKind.i64.wrap (b.Now-e.Last)
def QzB (b:Qz0) (e:QzZ):Bool:=decide (ageW b e<8)
@[simp] theorem QqX (b:Qz0) (e:QzZ):ZO b e=some (QzB b e):=rfl
@[simp] theorem QuI (b:Qz0) (e:QzZ):Qas b e=some (ageW b e):=rfl
def QuJ (f:Qz1):Bool:=decide (1≤f.Kind)&&decide (f.Kind≤7)&&decide (0≤f.From)&&decide (f.From≤65535)&&decide (0≤f.To)&&decide (f.To≤65535)&&decide (1≤f.FromPort)&&decide (f.FromPort≤65535)&&decide (1≤f.ToPort)&&decide (f.ToPort≤65535)
theorem QpN (f:Qz1):Qa8 f=some (QuJ f):=by
 unfold Qa8 QuJ;simp only[Qds,Qb,Qi2]
 congr 1;grind
theorem QpO {b:Qz0} (h:Qd7 b.net=true) {a:Int} (ha:b.inside a=true):0≤a∧a≤65535:=by
 obtain⟨h1,h2,h3,h4⟩:0≤b.Len∧b.Len≤16∧0≤b.Addr∧b.Addr≤65535:=Qjb h;have h5:b.Addr.tmod (QbU b.Len)=0:=by
  simp[Qd7] at h;exact h.2
 have hp:=QfM b.Len;simp[Qz0.inside,Qm5] at ha;refine⟨by omega,?_⟩;rw[Int.tmod_eq_emod_of_nonneg h3] at h5;obtain⟨k,hk⟩:=Int.dvd_of_emod_eq_zero h5;have e16:QbU b.Len*2^b.Len.toNat=65536:=by
  unfold QbU;rw[←Int.pow_add,show(16-b.Len).toNat+b.Len.toNat=16 by omega];rfl
 have hlt:k<2^b.Len.toNat:=by
  apply Int.lt_of_mul_lt_mul_left (a:=QbU b.Len) _ (by omega)
  rw[e16,←hk];omega
 have hle:QbU b.Len*(k+1)≤QbU b.Len*2^b.Len.toNat:=Int.mul_le_mul_of_nonneg_left (by omega) (by omega);rw[Int.mul_add,←hk,e16] at hle;omega
theorem Qon {b:Qz0} (h:b.frameOk=true) (e:QzZ):Jh b e=some (Qlt b e):=by
 obtain⟨hn,hw1,hw2⟩:=QpK h;have hw:0≤e.Last→e.Last≤b.Now→ageW b e=b.Now-e.Last:=fun a c=>Qs (by omega) (by omega);have hr:=fun(ha:b.inside e.Inner=true)=>QpO hn ha;unfold Jh;simp only[Qm7,QpN,Qds,Qgu hn,Qb,Qi2,QuI];rw[Qzr (f:=fun y=>decide (y<12))];unfold Qlt QuJ;generalize ageW b e=x at hw⊢
 congr 1
 grind
def Qy7 (e f:QzZ):Int:=Qeq [Qg8 e.Kind f.Kind,Qg8 e.Peer f.Peer,Qg8 e.PeerPort f.PeerPort,Qg8 e.Outer f.Outer]
theorem Qoo (e f:QzZ):decide (Qy7 e f≥0)=!Qiu e f:=by
 simp[Qy7,Qiu,Qeq,Qg8]
 grind
theorem Qop (e f:QzZ):Z9 e f=some (Qy7 e f):=by
 unfold Z9 Qy7;simp only[QpL,Qb,QzN (xs:=[_,_,_,_]) (by simp)]
def Qdg (b:Qz0) (e f:QzZ):Bool:=QuH e.flow f.flow&&QzB b f&&QzB b e
def QhP (b:Qz0) (i:Nat):Bool:=Qlt b (b.Entries.getD i default)&&(decide (i=0)||Qiu (b.Entries.getD (i-1) default) (b.Entries.getD i default))&&J5 i fun k=>!Qdg b (b.Entries.getD k default) (b.Entries.getD i default)
def Qz0.entriesOk (b:Qz0):Bool:=decide (b.Entries.length≤16)&&J5 b.Entries.length (QhP b)
theorem Qoq {b:Qz0} (h:b.frameOk=true) (hl:b.Entries.length≤9223372036854775807):ZX b=some b.entriesOk:=by
 unfold ZX;rw[Qb7 b.Entries.length (QhP b) (.inl ()) (.inr ()) (fun i hi _=>?_) (fun _=>by rw[if_neg (by simp)])]
 ·have e:decide ((b.Entries.length:Int)≤16)=decide (b.Entries.length≤16):=decide_eq_decide.2 (by omega)
  cases ha:J5 b.Entries.length (QhP b)<;>simp[Qz0.entriesOk,ha,e]
 ·rw[if_pos (by simp;omega),Qc (by omega),Qon h,Qb];simp only[Int.toNat_natCast];have hg:∀(_:decide ((i:Int)>0)=true) (_:(!Qlt b (b.Entries.getD i default))=false),(0:Int)≤IntKind.i64.wrap ((i:Int) -1)∧IntKind.i64.wrap ((i:Int) -1)<(b.Entries.length:Int):=fun h0 _=>by
   simp at h0;rw[Qdv hi h0 hl];omega
  rw[Qc hg];clear hg;have hin:lp (σ:=Int) (β:=Unit⊕Unit) (fun s10=>
    (if(decide (s10<((i:Nat):Int)))=true then
    gd ((0:Int)≤s10∧s10<((i:Nat):Int))<|
    bd (ZO b (b.Entries.getD i default)) fun x15=>
    bd (Qt (x15=true) (ZO b (b.Entries.getD s10.toNat default))) fun x16=>
    bd (Qt ((x15&&x16)=true) (ZD (b.Entries.getD i default))) fun x17=>
    bd (Qt ((x15&&x16)=true) (ZD (b.Entries.getD s10.toNat default))) fun x18=>
    (if((x15&&x16)&&((x17.Kind==x18.Kind)&&((x17.From==x18.From)&&((x17.FromPort==x18.FromPort)&&((x17.To==x18.To)&&((x17.ToPort==x18.ToPort)&&true))))))=true then
    some (.inr (.inl ()))
    else
    some (.inl (IntKind.i64.wrap (s10+1))))
    else
    some (.inr (.inr ())))) 0=some (if J5 i (fun k=>!Qdg b (b.Entries.getD k default) (b.Entries.getD i default))=true then .inr () else .inl ()):=by
   refine Qb7 i _ _ _ (fun k hk _=>?_) (fun _=>by rw[if_neg (by simp)]);rw[if_pos (by simp;omega),Qc (by omega),Qk hk (by omega)];simp only[Int.toNat_natCast,Qm7,QqX,Qb,Qi2,QtR]
   cases hp:Qdg b (b.Entries.getD k default) (b.Entries.getD i default)
   ·rw[if_neg]
    ·rfl
    ·unfold Qdg QuH at hp
     grind
   ·rw[if_pos]
    ·rfl
    ·unfold Qdg QuH at hp
     grind
  rcases(Bool.eq_false_or_eq_true (Qlt b (b.Entries.getD i default))).symm with h1|h1
  ·simp only[Qt,Bool.not_false,Bool.true_eq_false,and_false,if_false,Qb,Bool.true_or,if_true,QhP,h1,Bool.false_and,Bool.false_eq_true]
  ·by_cases h0:i=0
   ·have e0:decide ((i:Int)>0)=false:=by simp;omega
    have e1:decide (i=0)=true:=by simp[h0]
    rw[h1,e0];rw[Q3 (by decide),Qb,if_neg (by decide)];rw[Qc (by omega),hin,Qk hi hl]
    cases ha:J5 i (fun k=>!Qdg b (b.Entries.getD k default) (b.Entries.getD i default))<;>simp only[QhP,h1,e1,ha,Qb,Bool.true_or,Bool.and_self,Bool.and_true,Bool.and_false,Bool.false_eq_true,if_true,if_false]
   ·have e0:decide ((i:Int)>0)=true:=by simp;omega
    have e1:decide (i=0)=false:=by simp[h0]
    have hw:=Qdv hi (by omega) hl;rw[h1,e0,hw,Int.toNat_natCast,Qop,Qr (by decide),Qb,Qoo];simp only[Bool.not_true,Bool.true_and,Bool.false_or]
    cases h2:Qiu (b.Entries.getD (i-1) default) (b.Entries.getD i default)
    ·simp only[QhP,h1,h2,e1,Bool.not_false,if_true,Bool.or_self,Bool.and_false,Bool.false_and,Bool.false_eq_true,if_false]
    ·simp only[Bool.not_true,Bool.false_eq_true,if_false];rw[Qc (by omega),hin,Qk hi hl]
     cases ha:J5 i (fun k=>!Qdg b (b.Entries.getD k default) (b.Entries.getD i default))<;>simp only[QhP,h1,h2,e1,ha,Qb,Bool.or_true,Bool.and_self,Bool.and_true,Bool.and_false,Bool.false_eq_true,if_true,if_false]
def Qz0.ok (b:Qz0):Bool:=b.frameOk&&b.doorsOk&&b.entriesOk
theorem QpP {b:Qz0} (hd:b.Doors.length≤9223372036854775807) (he:b.Entries.length≤9223372036854775807):JB b=some b.ok:=by
 unfold JB;rw[Qom,Qb]
 by_cases hn:Qd7 b.net=true
 ·have hn':Qd7 ⟨b.Addr,b.Len⟩=true:=hn;rw[hn',Qds,Qd5,Qb,Qgu hn,Qd5,Qb,Qds,Qd5,Qb,QqW hn hd,Qb]
  by_cases hf:b.frameOk=true
  ·rw[if_neg,Qoq hf he,Qi2,Qb]
   ·simp only[Qz0.ok,hf,Bool.true_and]
    congr 1;grind
   ·unfold Qz0.frameOk at hf
    grind
  ·rw[if_pos]
   ·simp only[Bool.not_eq_true] at hf;simp[Qz0.ok,hf]
   ·unfold Qz0.frameOk at hf
    grind
 ·have hn':Qd7 ⟨b.Addr,b.Len⟩=false:=by simpa using hn
  rw[hn',Q3 (by decide),Qb,Q3 (by simp),Qb,Q3 (by simp),Qb,if_pos (by simp)];have hf:b.frameOk=false:=by
   unfold Qz0.frameOk;rw[show Qd7 b.net=false from hn'];simp
  simp[Qz0.ok,hf]
theorem QuK {xs:List QzV} (h:xs.length≤1048576):Qco xs xs=some true:=by
 unfold Qco;rw[if_neg (by simp),Qb7 xs.length (fun _=>true) (.inl ()) (.inr ()) (fun i hi _=>?_) (fun _=>by rw[if_neg (by simp)]),if_pos (Qax fun _ _=>rfl),Qb];rw[if_pos (by simp;omega),Qc (by omega),Qc (by omega),if_neg (by simp),if_pos rfl,Qk hi (by omega)]
theorem QuL {xs:List Qz3} (h:xs.length≤1048576):Qcp xs xs=some true:=by
 unfold Qcp;rw[if_neg (by simp),Qb7 xs.length (fun _=>true) (.inl ()) (.inr ()) (fun i hi _=>?_) (fun _=>by rw[if_neg (by simp)]),if_pos (Qax fun _ _=>rfl),Qb];rw[if_pos (by simp;omega),Qc (by omega),Qc (by omega),if_neg (by simp),if_pos rfl,Qk hi (by omega)]
theorem Qwg {b:Qz0} (hd:b.Doors.length≤1048576) (he:b.Entries.length≤1048576):QcT b b=some true:=by
 unfold QcT;rw[if_neg (by simp),Qb7 b.Doors.length (fun _=>true) (.inl ()) (.inr ()) (fun i hi _=>?_) (fun _=>by rw[if_neg (by simp)]),if_pos (Qax fun _ _=>rfl),Qb]
 ·dsimp only;rw[Qb7 b.Entries.length (fun _=>true) (.inl ()) (.inr ()) (fun i hi _=>?_) (fun _=>by rw[if_neg (by simp)]),if_pos (Qax fun _ _=>rfl),Qb];rw[if_pos (by simp;omega),Qc (by omega),Qc (by omega),if_neg (by simp),Qk hi (by omega),if_pos rfl]
 ·rw[if_pos (by simp;omega),Qc (by omega),Qc (by omega),if_neg (by simp),Qk hi (by omega),if_pos rfl]
theorem Qm8 {n:Nat} (h:n≤16):QbU (n:Int)=((2^(16-n):Nat):Int):=by
 unfold QbU;rw[show((16:Int) -(n:Int)).toNat=16-n by omega];simp
theorem QrO {p:Int×Nat} (h:OkP p):Qd7 (mkP p.1 p.2)=true:=by
 have h1:=h.lo;have h2:=h.hi;have h3:=h.len;have h4:=h.al;unfold Qd7 mkP;dsimp only;have ht:=Qke p.1.toNat (2^(16-p.2));rw[Int.toNat_of_nonneg h1,decide_eq_true h4] at ht;rw[Qm8 h3,decide_eq_true (by omega:(0:Int)≤(p.2:Int)),decide_eq_true (by omega:(p.2:Int)≤16),decide_eq_true h1,decide_eq_true h2];simpa using ht
theorem QuM {p:Int×Nat} (h:OkP p) (x:Int):Qm5 (mkP p.1 p.2) x=hasB p x:=by
 unfold Qm5 hasB mkP;dsimp only;rw[Qm8 h.len]
 congr 1
 rw[decide_eq_decide];omega
theorem QwW {w:Bs} (h:ckP w=true):∃p,pfN w=mkP p.1 p.2∧OkP p∧pfS w=(p.1,((2^(16-p.2):Nat):Int)):=by
 obtain⟨p,hp,ho⟩:=QxZ h;refine⟨p,?_,ho,?_⟩
 ·unfold pfN;rw[hp]
 ·unfold pfS;rw[hp]
theorem Qor {w:Bs} (h:ckP w=true):Qd7 (pfN w)=true:=by
 obtain⟨p,e,ho,_⟩:=QwW h;rw[e];exact QrO ho
theorem Qyc {rs:List QzV} (h:∀r∈rs,Qd7 r.From=true∧Qd7 r.To=true∧0≤r.Kind∧r.Kind≤7) (hl:rs.length≤12):QcG rs=some true:=by
 unfold QcG;rw[Qb7 rs.length (fun _=>true) (.inl ()) (.inr ()) (fun i hi _=>?_) (fun _=>by rw[if_neg (by simp)]),if_pos (Qax fun _ _=>rfl),Qb]
 ·show some (decide (((rs.length:Nat):Int)≤12))=some true;rw[decide_eq_true (by omega)]
 ·obtain⟨h1,h2,h3,h4⟩:=h _ (QaX hi);rw[if_pos (by simp;omega),Qc (by omega),Int.toNat_natCast,Qom,h1,Qb,Qom,h2,Qr (by rfl),Qb,Qds,decide_eq_true h3,decide_eq_true h4,Qr (by rfl),Qb,if_neg (by decide),Qk hi (by omega),if_pos rfl]
theorem Qwh {a b:Qz3} (ha:0≤a.Addr∧a.Addr≤65535∧0≤a.Len∧a.Len≤16) (hb:0≤b.Addr∧b.Addr≤65535∧0≤b.Len∧b.Len≤16) (h:kLt (QaQ a) (QaQ b)=true):∃z,JJ ⟨a.Addr,a.Len⟩ ⟨b.Addr,b.Len⟩=some z∧z<0:=by
 unfold QaQ at h;rw[QaB,QaB,QeQ] at h;simp only[Bool.or_eq_true,Bool.and_eq_true,decide_eq_true_eq,Bool.and_false,Bool.or_false,Bool.false_eq_true] at h;unfold JJ;dsimp only
 by_cases e:a.Addr=b.Addr
 ·rw[if_neg (by simp[e])];refine⟨_,rfl,?_⟩;rw[Qs (by omega) (by omega)];rcases h with h|h
  ·omega
  ·have:=h.2;omega
 ·rw[if_pos (by simpa using e)];refine⟨_,rfl,?_⟩;rw[Qs (by omega) (by omega)];rcases h with h|h
  ·omega
  ·exact absurd h.1 e
theorem QuN {xs:List Qz3} (h:∀x∈xs,Qd7 ⟨x.Addr,x.Len⟩=true∧x.Cost=1∧x.Label=0) (hs:∀i,0<i→i<xs.length→kLt (QaQ (xs.getD (i-1) default)) (QaQ (xs.getD i default))=true) (hl:xs.length≤8):Jm xs=some true:=by
 unfold Jm;rw[Qb7 xs.length (fun _=>true) (.inl ()) (.inr ()) (fun i hi _=>?_) (fun _=>by rw[if_neg (by simp)]),if_pos (Qax fun _ _=>rfl),Qb]
 ·show some (decide (((xs.length:Nat):Int)≤8))=some true;rw[decide_eq_true (by omega)]
 ·have he:∀k,k<xs.length→JI (xs.getD k default)=some true:=fun k hk=>by
   obtain⟨h1,h2,h3⟩:=h _ (QaX hk);unfold JI Zl;rw[Qb,Qom,h1,Qb,h2,h3,Qds,Qr (by rfl),Qb,Qds,Qr (by decide),Qb]
   rfl
  rw[if_pos (by simp;omega),Qc (by omega),Int.toNat_natCast,he i hi,Qb]
  by_cases h0:0<i
  ·have hr:∀k,k<xs.length→0≤(xs.getD k default).Addr∧(xs.getD k default).Addr≤65535∧0≤(xs.getD k default).Len∧(xs.getD k default).Len≤16:=fun k hk=>by
    have:=Qjb (h _ (QaX hk)).1;dsimp only at this;omega
   obtain⟨z,hz,hn⟩:=Qwh (hr (i-1) (by omega)) (hr i hi) (hs i h0 hi);have e1:decide ((i:Int)>0)=true:=by simp;omega
   rw[Qdv hi h0 (by omega),Qc (fun _ _=>by omega),Int.toNat_natCast,e1];unfold Zl;rw[Qr ⟨rfl,rfl⟩,Qb,Qr ⟨rfl,rfl⟩,Qb,Qr ⟨rfl,rfl⟩,hz,Qb,decide_eq_false (by omega),if_neg (by decide),Qk hi (by omega),if_pos rfl]
  ·have e0:i=0:=by omega
   subst e0;have e1:decide (((0:Nat):Int)>0)=false:=by decide
   rw[e1,Qc (fun q=>absurd q (by decide)),Qt,if_neg (fun q=>absurd q.1 (by decide)),Qb,Qt,if_neg (fun q=>absurd q.1 (by decide)),Qb,Qt,if_neg (fun q=>absurd q.1 (by decide)),Qb,if_neg (by simp),Qk hi (by omega),if_pos rfl]
theorem Qgv {α:Type} [Inhabited α] {ks:α→List Int} {q:Nat} (hq:∀x,(ks x).length=q) {xs:List α} (h:xs.Pairwise fun x y=>ks x≠ks y):(sortS (fun x y=>kLt (ks x) (ks y)) xs).Pairwise fun x y=>kLt (ks x) (ks y)=true:=by
 have h1:=Qjv (Qi1 hq) xs;have h2:(sortS (fun x y=>kLt (ks x) (ks y)) xs).Pairwise fun x y=>ks x≠ks y:=(List.Perm.pairwise_iff (fun {a b} (hab:ks a≠ks b)=>fun e=>hab e.symm) (QaN _ xs)).2 h;refine(h1.and h2).imp fun {a b} hab=>?_
 cases hk:kLt (ks a) (ks b)
 ·exact absurd (Qe8 (by rw[hq,hq]) hk hab.1) hab.2
 ·rfl
theorem Qwi {α:Type} [Inhabited α] {R:α→α→Prop} {xs:List α} (h:xs.Pairwise R) {i j:Nat} (hij:i<j) (hj:j<xs.length):R (xs.getD i default) (xs.getD j default):=by
 have:=List.pairwise_iff_getElem.1 h i j (by omega) hj hij;rw[List.getD_eq_getElem?_getD,List.getD_eq_getElem?_getD,List.getElem?_eq_getElem (by omega),List.getElem?_eq_getElem hj];exact this
theorem QwX:∀(n:Nat) (l:List Nat),l.Pairwise (· ≠ ·)→(∀x∈l,x<n)→l.length≤n
 |0,l,_,h=>by
  cases l with
  |nil=>simp
  |cons a r=>exact absurd (h a (by simp)) (by omega)
 |n+1,l,hp,h=>by
  have ih:=QwX n (l.filter fun x=>x !=n) (hp.filter _) (fun x hx=>by
   obtain⟨h1,h2⟩:=List.mem_filter.1 hx;have:=h x h1;have:x≠n:=by simpa using h2
   omega)
  have hc:(l.filter fun x=>!(x !=n)).length≤1:=by
   have hq:=hp.filter fun x=>!(x !=n)
   match hm:l.filter fun x=>!(x !=n) with
   |[]=>simp
   |[_]=>simp
   |a::b::r=>
    rw[hm] at hq;have ha:a=n:=by
     have:=(List.mem_filter.1 (by rw[hm];simp:a∈l.filter fun x=>!(x !=n))).2;simpa using this
    have hb:b=n:=by
     have:=(List.mem_filter.1 (by rw[hm];simp:b∈l.filter fun x=>!(x !=n))).2;simpa using this
    have:=(List.pairwise_cons.1 hq).1 b (by simp);exact absurd (ha.trans hb.symm) this
  have hs:l.length=(l.filter fun x=>x !=n).length+(l.filter fun x=>!(x !=n)).length:=by
   rw[←List.length_append];have:=List.filter_append_perm (fun x=>x !=n) l;exact this.length_eq.symm
  omega
theorem QuO {ls:List Bs} (h:Small ls):(cutK wPort ls).length≤8:=by
 have H:=Qb9 h wPort;unfold cutK at H⊢;split
 ·rename_i hc;rw[if_pos hc] at H;have hf:=h.few;have hk:=QfL (J0 hc).1 (by omega) wPort;generalize kind wPort (ls.map wsL)=K at H hk;have hp:∀c∈K,0≤ZB (c.getD 1 [])∧ZB (c.getD 1 [])≤7:=fun c hc=>Ja (Qhb (H.form c hc) (H.head c hc)).1.1;have:=QwX 8 (K.map fun c=>(ZB (c.getD 1 [])).toNat) (by
   rw[List.pairwise_map];refine hk.imp_of_mem fun {c d} hc hd hne e=>hne ?_;have h1:=Qhb (H.form c hc) (H.head c hc);have h2:=Qhb (H.form d hd) (H.head d hd);have p1:=hp c hc;have p2:=hp d hd;have en:ZB (c.getD 1 [])=ZB (d.getD 1 []):=by omega
   have ec:=Qog p1.1 en;show c.take 2=d.take 2;rw[Qv9 (by omega),Qv9 (by omega),H.head c hc,H.head d hd,ec]) (fun x hx=>by
   obtain⟨c,hc,rfl⟩:=List.mem_map.1 hx;have:=hp c hc;omega)
  simpa using this
 ·simp
theorem Qwj {ls:List Bs} (h:Small ls):Jm (QjA ls)=some true∧(QjA ls).length≤8:=by
 have A:=Qls h;have hl:=QuO h;rw[QpF,QmX A];have hlen:(sortS (fun x y=>kLt (QaQ x) (QaQ y)) (((cutK wPort ls).map QdH).map Ql0)).length≤8:=by
  rw[Qgn,List.length_map,List.length_map];exact hl
 have hst:=Qgv (ks:=QaQ) (q:=2) (fun _=>rfl) A;have hmem:∀x∈sortS (fun x y=>kLt (QaQ x) (QaQ y)) (((cutK wPort ls).map QdH).map Ql0),Qd7 ⟨x.Addr,x.Len⟩=true∧x.Cost=1∧x.Label=0:=fun x hx=>by
  have hx:=(QaN _ _).mem_iff.1 hx;obtain⟨p,hp,rfl⟩:=List.mem_map.1 hx;obtain⟨c,hc,rfl⟩:=List.mem_map.1 hp;have H:=Qb9 h wPort;exact⟨Qor (Qhb (H.form c hc) (H.head c hc)).1.2,rfl,rfl⟩
 generalize sortS (fun x y=>kLt (QaQ x) (QaQ y)) (((cutK wPort ls).map QdH).map Ql0)=T at hlen hst hmem;exact⟨QuN hmem (fun i h0 hi=>Qwi hst (by omega) hi) hlen,hlen⟩
theorem Qwk {ls:List Bs} (h:Small ls) (l:Bs):QcG (Qjz ls l)=some true∧(Qjz ls l).length≤12∧(Qjz ls l).length=((cutK wRule ls).filter fun c=>c.getD 1 []==l).length:=by
 have H:=Qb9 h wRule;have hF:∀c∈cutK wRule ls,0≤Qdf c∧Qdf c<100:=fun c hc=>by
  have:=Ja (Qjx (H.form c hc) (H.head c hc)).2.1;unfold Qdf;omega
 rw[QpJ,QmZ l hF (Qm2 h)];have hlen:((sortS (fun c d=>kLt [Qdf c] [Qdf d]) ((cutK wRule ls).filter fun c=>c.getD 1 []==l)).map Ql1).length=((cutK wRule ls).filter fun c=>c.getD 1 []==l).length:=by
  rw[List.length_map,Qgn]
 have h12:((cutK wRule ls).filter fun c=>c.getD 1 []==l).length≤12:=by
  by_cases he:((cutK wRule ls).filter fun c=>c.getD 1 []==l).length=0
  ·omega
  ·obtain⟨c,hc⟩:=List.exists_mem_of_length_pos (by omega:0<((cutK wRule ls).filter fun c=>c.getD 1 []==l).length);obtain⟨hc1,hc2⟩:=List.mem_filter.1 hc;have hc2:c.getD 1 []=l:=by simpa using hc2
   unfold cutK at hc1⊢;split at hc1
   ·rename_i hk;rw[if_pos hk];have hno:=List.any_eq_false.1 (Qeu (J0 hk).2).1 c (ZG hc1).1;have hw:=(ZG hc1).2;have hn:¬cntR (ls.map wsL) l>12:=fun hgt=>hno (by
     unfold QfW;rw[hw,hc2,decide_eq_true hgt]
     rfl)
    have e:((kind wRule (ls.map wsL)).filter fun c=>c.getD 1 []==l).length=cntR (ls.map wsL) l:=by
     unfold kind cntR;rw[List.filter_filter,←List.countP_eq_length_filter];refine List.countP_congr fun c _=>?_;unfold QvO;rw[Bool.and_comm]
    omega
   ·simp at hc1
 refine⟨Qyc (fun r hr=>?_) (by omega),by omega,hlen⟩;obtain⟨c,hc,rfl⟩:=List.mem_map.1 hr;have hc:=(List.mem_filter.1 ((QaN _ _).mem_iff.1 hc)).1;have hq:=Qjx (H.form c hc) (H.head c hc);have:=Ja hq.2.2.2.2;exact⟨Qor hq.2.2.1,Qor hq.2.2.2.1,this.1,this.2⟩
theorem Qos {ls:List Bs} {w:Bs} {c:List Bs} (h:c∈cutK w ls):Qc2 ls=0∧cutK w ls=kind w (ls.map wsL):=by
 unfold cutK at h⊢;split at h
 ·rename_i hc;exact⟨hc,by rw[if_pos hc]⟩
 ·simp at h
structure TransOk (z:List Bs) (K:List (List Bs)):Prop where
 few:K.length≤6
 out:outB (pfS (z.getD 1 [])) (QT (z.getD 2 []))=true
 le:ZB (z.getD 3 [])≤ZB (z.getD 4 [])
 good:∀c∈K,Qi8 z c=true
 apart:K.Pairwise fun c d=>QgQ c d=false
theorem Qwl {ls:List Bs} {z:List Bs} {r:List (List Bs)} (h:cutK wNat ls=z::r):TransOk z (cutK wDoor ls):=by
 obtain⟨hc,hk⟩:=Qos (ls:=ls) (w:=wNat) (c:=z) (by rw[h];simp);have hd:cutK wDoor ls=kind wDoor (ls.map wsL):=by unfold cutK;rw[if_pos hc]
 rw[hd];rw[hk] at h;have ht:=(Qeu (J0 hc).2).2.2.2;generalize ls.map wsL=cs at h ht;unfold Qfb at ht
 cases hn:QwR cs with
 |none=>rw[QrF hn] at h;cases h
 |some k=>
  obtain⟨r',e⟩:=QrG hn;rw[h] at e;have ez:z=cs.getD k []:=(List.cons.inj e).1;rw[hn] at ht;dsimp only at ht;rw[QrH] at ht;simp only[Bool.and_eq_true,decide_eq_true_eq,W,←ez] at ht;obtain⟨h1,⟨h2,h3⟩,h4⟩:=ht;rw[Qod,Bool.and_eq_true] at h1;refine⟨?_,h3,h4,fun c hc=>?_,?_⟩
  ·rw[List.countP_eq_length_filter] at h2;exact h2
  ·have:=h1.1;rw[Qoe (kind wDoor cs) [] (Qi8 z)] at this;exact List.all_eq_true.1 this c hc
  ·have:=(Qfc (kind wDoor cs) [] fun c d=>!QgQ d c).1 h1.2;exact this.imp fun {c d} hq=>by simpa using hq
theorem QuP {c d:List Bs} (h1:LineF c) (w1:c.getD 0 []=wDoor) (h2:LineF d) (w2:d.getD 0 []=wDoor) (hs:QgQ c d=false):Jb (Qb6 c) (Qb6 d)=false:=by
 cases hc:Jb (Qb6 c) (Qb6 d) with
 |false=>rfl
 |true=>
  have p1:=QmV h1 w1;unfold Jb Qb6 at hc;simp only[Bool.and_eq_true,beq_iff_eq] at hc;have:QgQ c d=true:=by
   unfold QgQ;rw[Qlr (by decide) p1.2.1 hc.1,Quw p1.2.2.2.1 hc.2.1,Qlr (by decide) p1.2.2.2.2 hc.2.2];simp
  rw[this] at hs;cases hs
theorem QsQ (e d:QzY):Jb e d=Jb d e:=by
 unfold Jb;rw[Bool.eq_iff_iff];simp only[Bool.and_eq_true,beq_iff_eq]
 constructor<;>(rintro⟨a,b,c⟩;exact⟨a.symm,b.symm,c.symm⟩)
theorem QqY (e d:QzY):Qc4 e d=QdG e d:=rfl
theorem Qwm {ls:List Bs} (h:Small ls) {z:List Bs} {r:List (List Bs)} (hz:cutK wNat ls=z::r):(QhN z (((cutK wDoor ls).map Qb6).foldl (insL QdG) [])).ok=true∧(((cutK wDoor ls).map Qb6).foldl (insL QdG) []).length≤6:=by
 have T:=Qwl hz;have HN:=Qb9 h wNat
 have H:=Qb9 h wDoor;have A:=Qm1 h;have z1:=HN.form z (by rw[hz];simp);have z0:=HN.head z (by rw[hz];simp);have hq:=QxX z1 z0;have hlo:=Ja hq.2.2.2.1;have hhi:=Ja hq.2.2.2.2;have hown:=Qdd (z.getD 2 []);have hown0:0≤QT (z.getD 2 []):=by simpa[ckA] using hq.2.2.1
 obtain⟨p,e1,hp,e2⟩:=QwW hq.2.1;rw[QdK Qoi];have hA:((cutK wDoor ls).map Qb6).Pairwise fun x y=>QdJ x≠QdJ y:=by
  rw[List.pairwise_map];exact A.imp fun {c d} hne e=>hne (by simpa[QdJ,Qb6] using e)
 have hst:=Qgv (ks:=QdJ) (q:=2) (fun _=>rfl) hA;have hS:((cutK wDoor ls).map Qb6).Pairwise fun x y=>Jb x y=false:=by
  rw[List.pairwise_map];exact T.apart.imp_of_mem fun {c d} hc hd hs=>QuP (H.form c hc) (H.head c hc) (H.form d hd) (H.head d hd) hs
 have hcl:(sortS (fun x y=>kLt (QdJ x) (QdJ y)) ((cutK wDoor ls).map Qb6)).Pairwise fun x y=>Jb x y=false:=(List.Perm.pairwise_iff (fun {a b} (hab:Jb a b=false)=>by rw[QsQ];exact hab) (QaN _ _)).2 hS;have hlen:(sortS (fun x y=>kLt (QdJ x) (QdJ y)) ((cutK wDoor ls).map Qb6)).length≤6:=by
  rw[Qgn,List.length_map];exact T.few
 have hnet:(QhN z (sortS (fun x y=>kLt (QdJ x) (QdJ y)) ((cutK wDoor ls).map Qb6))).net=mkP p.1 p.2:=by
  show(⟨(pfN (z.getD 1 [])).Addr,(pfN (z.getD 1 [])).Len⟩:QzU)=_;rw[e1]
 have hin:∀x,(QhN z (sortS (fun x y=>kLt (QdJ x) (QdJ y)) ((cutK wDoor ls).map Qb6))).inside x=!outB (pfS (z.getD 1 [])) x:=fun x=>by
  unfold Qz0.inside;rw[hnet,QuM hp,QqK,e2]
 have hmem:∀d∈sortS (fun x y=>kLt (QdJ x) (QdJ y)) ((cutK wDoor ls).map Qb6),Qit (QhN z (sortS (fun x y=>kLt (QdJ x) (QdJ y)) ((cutK wDoor ls).map Qb6))) d=true:=fun d hd=>by
  obtain⟨c,hc,rfl⟩:=List.mem_map.1 ((QaN _ _).mem_iff.1 hd);have p1:=QmV (H.form c hc) (H.head c hc);have k1:=Ja p1.2.1;have k2:=Ja p1.2.2.1;have k4:=Ja p1.2.2.2.2;have hg:=T.good c hc;unfold Qi8 at hg;simp only[Bool.and_eq_true,Bool.not_eq_true'] at hg;unfold Qit;rw[hin];show(decide (1≤ZB (c.getD 1 []))&&decide (ZB (c.getD 1 [])≤7)&&decide (1≤ZB (c.getD 2 []))&&decide (ZB (c.getD 2 [])≤65535)&& !(decide (ZB (z.getD 3 [])≤ZB (c.getD 2 []))&&decide (ZB (c.getD 2 [])≤ZB (z.getD 4 [])))&& !outB (pfS (z.getD 1 [])) (QT (c.getD 3 []))&&decide (1≤ZB (c.getD 4 []))&&decide (ZB (c.getD 4 [])≤65535))=true;have hnot:(decide (ZB (z.getD 3 [])≤ZB (c.getD 2 []))&&decide (ZB (c.getD 2 [])≤ZB (z.getD 4 [])))=false:=hg.2;rw[hnot,hg.1,decide_eq_true k1.1,decide_eq_true k1.2,decide_eq_true k2.1,decide_eq_true k2.2,decide_eq_true k4.1,decide_eq_true k4.2]
  rfl
 refine⟨?_,hlen⟩;have hnok:=QrO hp;generalize hD:sortS (fun x y=>kLt (QdJ x) (QdJ y)) ((cutK wDoor ls).map Qb6)=D at hst hcl hlen hnet hin hmem;unfold Qz0.ok;have f1:(QhN z D).frameOk=true:=by
  unfold Qz0.frameOk;rw[hnet,hnok];have:(QhN z D).inside (QhN z D).Own=false:=by
   rw[hin];show(!outB (pfS (z.getD 1 [])) (QT (z.getD 2 [])))=false;rw[T.out];rfl
  rw[this];show(true&&decide (0≤QT (z.getD 2 []))&&decide (QT (z.getD 2 [])≤65535)&& !false&&decide (1≤ZB (z.getD 3 []))&&decide (ZB (z.getD 3 [])≤ZB (z.getD 4 []))&&decide (ZB (z.getD 4 [])≤65535)&&decide ((0:Int)≤0)&&decide ((0:Int)≤1000000))=true;rw[decide_eq_true hown0,decide_eq_true hown.2,decide_eq_true hlo.1,decide_eq_true T.le,decide_eq_true hhi.2]
  rfl
 have f2:(QhN z D).doorsOk=true:=by
  unfold Qz0.doorsOk;have hl:(QhN z D).Doors.length≤6:=hlen;rw[decide_eq_true hl,Bool.true_and];refine Qax fun i hi=>?_;have hi:i<D.length:=hi;unfold Qm6;have h1:Qit (QhN z D) ((QhN z D).Doors.getD i default)=true:=hmem _ (QaX hi);rw[h1,Bool.true_and];refine Qax fun k hk=>?_;have a1:kLt (QdJ (D.getD k default)) (QdJ (D.getD i default))=true:=Qwi hst hk hi;have a2:Jb (D.getD k default) (D.getD i default)=false:=Qwi hcl hk hi;show QgJ (D.getD k default) (D.getD i default)=true;unfold QgJ;rw[QqY,Qoi,a1,a2]
  rfl
 have f3:(QhN z D).entriesOk=true:=rfl;rw[f1,f2,f3]
 rfl
theorem Qy1 {ls:List Bs} (h:Small ls):((QsH ls).2=true→JB (QsH ls).1=some true)∧(QsH ls).1.Doors.length≤6∧(QsH ls).1.Entries.length=0:=by
 rw[QuF]
 cases hz:cutK wNat ls with
 |nil=>exact⟨fun h=>(by cases h),Nat.zero_le _,rfl⟩
 |cons z r=>
  obtain⟨h1,h2⟩:=Qwm h hz;refine⟨fun _=>?_,h2,rfl⟩;dsimp only;rw[QpP (Nat.le_trans h2 (by omega)) (Nat.zero_le _),h1]
theorem Qwn {K:List (List Bs)} (H:KOk wPort K) (x:Int) (hx:∃c∈K,hasB (pv c) x=true):∃v,QcU (K.map QdH) x=some v∧0≤v:=by
 have hf:=H.few;unfold QcU;rw[QaC K.length (fun i=>hasB (pv (K.getD i [])) x) (fun i=>.inl (ZB ((K.getD i []).getD 1 []))) (.inr ()) (fun i hi=>?_) (by rw[if_neg (by simp)]),Qb]
 ·cases hr:Jj (fun i=>hasB (pv (K.getD i [])) x) K.length with
  |none=>
   obtain⟨c,hc,hh⟩:=hx;obtain⟨i,hi,e⟩:=List.getElem_of_mem hc;have:=QcB hr i hi;rw[List.getD_eq_getElem?_getD,List.getElem?_eq_getElem hi,Option.getD_some,e,hh] at this
   cases this
  |some i=>
   obtain⟨hi,_⟩:=QcA hr;obtain⟨h1,h2,_⟩:=H.at hi;exact⟨_,rfl,(Ja (Qhb h1 h2).1.1).1⟩
 ·obtain⟨h1,h2,h3⟩:=H.at hi;have hpv:=QdR h1 h2;have eg:(K.map QdH).getD i default=QdH (K.getD i []):=by
   rw[List.getD_eq_getElem?_getD,List.getElem?_map,List.getElem?_eq_getElem hi,List.getD_eq_getElem?_getD,List.getElem?_eq_getElem hi]
   rfl
  have en:(⟨(QdH (K.getD i [])).Addr,(QdH (K.getD i [])).Len⟩:QzU)=mkP (pv (K.getD i [])).1 (pv (K.getD i [])).2:=by
   show(⟨(pfN ((K.getD i []).getD 2 [])).Addr,(pfN ((K.getD i []).getD 2 [])).Len⟩:QzU)=_;rw[hpv.2.1]
  rw[if_pos (by simp;omega),Qc (by rw[List.length_map];omega),Int.toNat_natCast,eg,en,Qlp hpv.1.lo hpv.1.hi hpv.1.len,Qb,Qk hi (by omega)]
  cases hasB (pv (K.getD i [])) x<;>rfl
theorem QpQ {ls:List Bs} (h:Small ls) (hc:Qc2 ls=0) {x:Int} (hx:QfX (ls.map wsL) x=true):∃v,ZY (ls.map tS) x=some v∧0≤v:=by
 have H:=Qb9 h wPort;unfold ZY;rw[QpE h,Qb];obtain⟨c,hcm,hn⟩:=List.any_eq_true.1 hx;unfold QqI at hn;simp only[Bool.and_eq_true,decide_eq_true_eq,beq_iff_eq] at hn;have hk:c∈cutK wPort ls:=by
  unfold cutK;rw[if_pos hc];exact List.mem_filter.2 ⟨hcm,by rw[hn.1];simp⟩
 have hpv:=QdR (H.form c hk) (H.head c hk);have hb:hasB (pv c) x=true:=by
  rw[hpv.2.2] at hn;unfold hasB;simp only[Bool.and_eq_true,decide_eq_true_eq];omega
 obtain⟨v,e,h0⟩:=Qwn H x ⟨c,hk,hb⟩;exact⟨v,by rw[e,Qb],h0⟩
theorem QuQ {ls:List Bs} (h:Small ls):∀v∈QpA ls,∃k,ZY (ls.map tS) v.Next=some k∧0≤k:=fun v hv=>by
 rw[Qol,QdK Quy] at hv;obtain⟨c,hc,rfl⟩:=List.mem_map.1 ((QaN _ _).mem_iff.1 hv);obtain⟨h0,hk⟩:=Qos hc;rw[hk] at hc;have hn:=List.any_eq_false.1 (Qeu (J0 h0).2).2.2.1 c (ZG hc).1;refine QpQ h h0 ?_;show QfX _ (QT (c.getD 2 []))=true
 cases hb:QfX (ls.map wsL) (QT (c.getD 2 [])) with
 |true=>rfl
 |false=>
  refine(hn ?_).elim;unfold QfH;rw[(ZG hc).2,hb]
  rfl
theorem QsR {ls:List Bs} (h:Small ls):∀v∈Qff ls,∃k,ZY (ls.map tS) v.Addr=some k∧0≤k:=fun v hv=>by
 rw[Qis,QdK Qoh] at hv;obtain⟨c,hc,rfl⟩:=List.mem_map.1 ((QaN _ _).mem_iff.1 hv);obtain⟨h0,hk⟩:=Qos hc;rw[hk] at hc;have hn:=List.any_eq_false.1 (Qeu (J0 h0).2).2.2.1 c (ZG hc).1;refine QpQ h h0 ?_;show QfX _ (QT (c.getD 1 []))=true
 cases hb:QfX (ls.map wsL) (QT (c.getD 1 [])) with
 |true=>rfl
 |false=>
  refine(hn ?_).elim;unfold QfH;rw[(ZG hc).2,hb]
  rfl
theorem QsS {ls:List Bs} (h:Small ls) {i:Nat} (h0:0<i) (hi:i<(Qff ls).length):((Qff ls).getD (i-1) default).Addr<((Qff ls).getD i default).Addr:=by
 have A:=Qm0 h;rw[Qis,QdK Qoh] at hi⊢;have hA:((cutK wPeer ls).map QfK).Pairwise fun x y=>Qi9 x≠Qi9 y:=by
  rw[List.pairwise_map];exact A.imp fun {c d} hne e=>hne (by simpa[Qi9,QfK] using e)
 have hst:=Qgv (ks:=Qi9) (q:=1) (fun _=>rfl) hA;have:=Qwi hst (by omega:i-1<i) hi;generalize sortS (fun x y=>kLt (Qi9 x) (Qi9 y)) (List.map QfK (cutK wPeer ls))=Z at this⊢;unfold Qi9 at this;rw[QaB,QeQ] at this;simpa using this
theorem Qwo {ls:List Bs} (h:Small ls):(QpA ls).length≤999∧(Qff ls).length≤999:=by
 have h1:=(Qb9 h wRoute).few;have h2:=(Qb9 h wPeer).few;rw[Qol,Qis,Qfg,Qfg,List.length_map,List.length_map];simp only[List.length_nil];omega
def isR (ls:List Bs) (l:Bs) (x:Bs):Bool:=(Qc2 ls==0)&&decide (1<(wsL x).length)&&(wsL x).getD 0 []==wRule&&(wsL x).getD 1 []==l
theorem QqZ {ls:List Bs} (h:Small ls) (l:Bs):ls.countP (isR ls l)=((cutK wRule ls).filter fun c=>c.getD 1 []==l).length:=by
 have hf:=h.few;unfold cutK;split
 ·rename_i hc;have F:=(QfJ (J0 hc).1 (by omega)).forms;unfold kind;rw[List.filter_filter,←List.countP_eq_length_filter,List.countP_map];refine List.countP_congr fun x hx=>?_;have hF:=F.form (wsL x) (List.mem_map.2 ⟨x,hx,rfl⟩);show isR ls l x=true↔((wsL x).getD 1 []==l&&(wsL x).getD 0 []==wRule)=true;unfold isR;rw[hc];simp only[Bool.and_eq_true,beq_iff_eq,decide_eq_true_eq]
  constructor
  ·rintro⟨⟨⟨_,_⟩,a⟩,b⟩;exact⟨b,a⟩
  ·rintro⟨a,b⟩;have:=(Qjx hF b).1;exact⟨⟨⟨trivial,by omega⟩,b⟩,a⟩
 ·rename_i hc;have:ls.countP (isR ls l)=0:=List.countP_eq_zero.2 fun x _=>by
   unfold isR;have:(Qc2 ls==0)=false:=by simpa using hc
   rw[this];simp
  rw[this];rfl
structure Rq (b:List Int) (p k:Int):Prop where
 bytes:∀x∈b,QoX x
 len:b.length≤2000
 p0:0≤p
 p1:p≤k
theorem Rq.mono {b:List Int} {p k k':Int} (h:Rq b p k) (hk:k≤k'):Rq b p k':=⟨h.bytes,h.len,h.p0,Int.le_trans h.p1 hk⟩
theorem pk1 {b:List Int} {p n k:Int} (h:Rq b p k) (hk:k≤1000000) (hn:1≤n):Post (Zc ⟨b,p⟩ n) fun x=>(0≤x.1∧x.1<n)∧Rq b x.2.p (k+1):=
 (QtW (r:=⟨b,p⟩) ⟨h.bytes,h.len,h.p0,h.p1⟩ (by omega) hn).mono fun x ⟨h1,h2⟩=>⟨h1,h2.bytes,h2.len,h2.p0,h2.p1⟩
theorem pk5 {b:List Int} {p n k:Int} (h:Rq b p k) (hk:k≤1000000) (hn:1≤n):Post (Q1 ⟨b,p⟩ n) fun x=>(0≤x.1∧x.1<n)∧Rq b x.2.p (k+1):=
 (Qsw (r:=⟨b,p⟩) ⟨h.bytes,h.len,h.p0,h.p1⟩ (by omega) hn).mono fun x ⟨h1,h2⟩=>⟨h1,h2.bytes,h2.len,h2.p0,h2.p1⟩
def sz (xs:List Bt) (n:Nat):Bool:=xs.all fun s=>decide (s.size≤n)
theorem QsT {xs:List Bt} {n i:Nat} (h:sz xs n=true) (hi:i<xs.length):(xs.getD i default).size≤n:=of_decide_eq_true (List.all_eq_true.1 h _ (QaX hi))
theorem of1 {b:List Int} {p k:Int} {xs:List Bt} (h:Rq b p k) (hk:k≤1000000) (hn:(decide (1≤xs.length)&&sz xs 60)=true):Post (Qv ⟨b,p⟩ xs) fun x=>x.1.size≤60∧Rq b x.2.p (k+1):=by
 simp only[Bool.and_eq_true,decide_eq_true_eq] at hn;unfold Qv;exact .bd (pk1 h hk (by omega)) fun x ⟨h1,h2⟩=>.gd h1 (.ret ⟨QsT hn.2 (by omega),h2⟩)
theorem of5 {b:List Int} {p k:Int} {xs:List Bt} (h:Rq b p k) (hk:k≤1000000) (hn:(decide (1≤xs.length)&&sz xs 60)=true):Post (Qz ⟨b,p⟩ xs) fun x=>x.1.size≤60∧Rq b x.2.p (k+1):=by
 simp only[Bool.and_eq_true,decide_eq_true_eq] at hn;unfold Qz;exact .bd (pk5 h hk (by omega)) fun x ⟨h1,h2⟩=>.gd h1 (.ret ⟨QsT hn.2 (by omega),h2⟩)
theorem QzR {b:List Int} {p k:Int} {xs:List Bt} (h:Rq b p k) (hk:k≤1000000) (hn:(decide (1≤xs.length)&&sz xs 60)=true):Post (J2 ⟨b,p⟩ xs) fun x=>x.1.size≤60∧Rq b x.2.1.p (k+1)∧x.2.2=xs:=by
 simp only[Bool.and_eq_true,decide_eq_true_eq] at hn;unfold J2;exact .bd (pk5 h hk (by omega)) fun x ⟨h1,h2⟩=>.gd h1 (.ret ⟨QsT hn.2 (by omega),h2,rfl⟩)
theorem Qjc (a:Array UInt8):(⟨a⟩:Bt).size=a.size:=rfl
structure Sm (xs:List Bt) (n:Nat):Prop where
 few:xs.length≤n
 short:∀s∈xs,s.size≤1000+100*n
theorem Sm.mono {xs:List Bt} {n m:Nat} (h:Sm xs n) (hm:n≤m):Sm xs m:=⟨Nat.le_trans h.few hm,fun s hs=>by have:=h.short s hs;omega⟩
theorem QzO (xs:List Bt):xs=(xs.map tB).map tS:=by
 rw[List.map_map]
 conv=>lhs;rw[←List.map_id xs]
 exact List.map_congr_left fun s _=>(Qsx s).symm
theorem QrP {s:Bt} (h:s.size≤1000000):Post (JR s) fun _=>True:=by
 have:=QwP (l:=tB s) (by rw[QtX];exact h);rw[Qsx] at this;exact⟨_,this,trivial⟩
theorem QsU {xs:List Bt} {n:Nat} (h:Sm xs n) (hn:n≤1000):Post (Zk xs) fun _=>True:=by
 have:=QfI (ls:=xs.map tB) (fun l hl=>by
  obtain⟨s,hs,rfl⟩:=List.mem_map.1 hl;have:=h.short s hs;rw[QtX];omega) (by rw[List.length_map];have:=h.few;omega)
 rw[←QzO] at this;exact⟨_,this,trivial⟩
theorem QsV {xs:List Bt} {n:Nat} {s:Bt} (h:Sm xs n) (hn:n≤1000):Post (QcM xs s) fun k=>k<(xs.length:Int):=by
 have hf:=h.few;unfold QcM;refine .bd (Q:=fun r=>match r with| .inl k=>k<(xs.length:Int)| .inr _=>True) (.lp (fun i=>0≤i∧i≤(xs.length:Int)) (fun i=>((xs.length:Int) -i).toNat) ⟨Int.le_refl _,by omega⟩ fun i ⟨h0,h1⟩=>.ite (fun hc=>?_) fun _=>.ret trivial) fun r hr=>?_
 ·have hc:=of_decide_eq_true hc;have hm:xs.getD i.toNat default∈xs:=QaX (by omega);have e:IntKind.i64.wrap (i+1)=i+1:=Qs (by omega) (by omega);refine .gd ⟨h0,hc⟩ (.bd (QrP (by have:=h.short _ hm;omega)) fun k _=>.ite (fun _=>.ret hc) fun _=>.ret ?_);rw[e];exact⟨⟨by omega,by omega⟩,by omega⟩
 ·cases r with
  |inl k=>exact .ret hr
  |inr _=>exact .ret (by show(-1:Int)<_;omega)
theorem QjB {xs:List Bt} {n:Nat} {k:Int} (h:Sm xs n) (hn:n≤1000) (h0:0≤k) (h1:k<(xs.length:Int)):Post (JW xs k) fun r=>Sm r n:=by
 have hf:=h.few;have e:IntKind.i64.wrap (k+1)=k+1:=Qs (by omega) (by omega);unfold JW;rw[e];have hd:QdL ((xs.length:Nat):Int) (k+1)=xs.length-(k.toNat+1):=by rw[Zf];omega
 refine .gd (by omega) (.gd (by omega) (.gd (by omega) (.gd (by rw[hd,List.length_take];omega) (.ret ⟨?_,fun s hs=>h.short s ?_⟩))))
 ·rw[hd,List.length_append,List.length_take,List.length_drop,List.length_take];omega
 ·rcases List.mem_append.1 hs with hs|hs
  ·exact List.mem_of_mem_take hs
  ·exact List.mem_of_mem_take (List.mem_of_mem_drop hs)
theorem Qkg {xs:List Bt} {n:Nat} {s:Bt} (h:Sm xs n) (hn:n≤1000) (hs:s.size≤1000):Post (Qak xs s) fun r=>Sm r (n+1):=by
 have hf:=h.few;unfold Qak;refine .bd (Q:=fun k=>0≤k∧k≤(xs.length:Int)) (.lp (fun i=>0≤i∧i≤(xs.length:Int)) (fun i=>((xs.length:Int) -i).toNat) ⟨Int.le_refl _,by omega⟩ fun i ⟨h0,h1⟩=>.gd (fun hc=>⟨h0,of_decide_eq_true hc⟩) (.ite (fun hc=>.ret ?_) fun _=>.ret ⟨h0,h1⟩)) fun k ⟨h0,h1⟩=>?_
 ·simp only[Bool.and_eq_true,decide_eq_true_eq] at hc;have e:IntKind.i64.wrap (i+1)=i+1:=Qs (by omega) (by omega);rw[e];exact⟨⟨by omega,by omega⟩,by omega⟩
 ·have hd:QdL ((xs.length:Nat):Int) k=xs.length-k.toNat:=by rw[Zf];omega
  refine .gd (by omega) (.gd (by omega) (.gd (by rw[List.length_take,List.length_cons,List.length_nil];omega) (.gd (by omega) (.gd (by rw[hd,List.length_append,List.length_take,List.length_cons,List.length_nil];omega) (.ret ⟨?_,fun x hx=>?_⟩)))))
  ·rw[hd,List.length_append,List.length_append,List.length_take,List.length_drop,List.length_take,List.length_cons,List.length_nil];omega
  ·rcases List.mem_append.1 hx with hx|hx
   ·rcases List.mem_append.1 hx with hx|hx
    ·have:=h.short x (List.mem_of_mem_take hx);omega
    ·have:x=s:=by simpa using hx
     rw[this];omega
   ·have:=h.short x (List.mem_of_mem_take (List.mem_of_mem_drop hx));omega
theorem Qkh {xs:List Bt} {n:Nat} {s:Bt} (h:Sm xs n) (hn:n≤900) (hs:s.size≤1000):Post (ZS xs s) fun r=>Sm r (n+1):=by
 unfold ZS;refine .bd (QrP (by omega)) fun k _=>.bd (QsV h (by omega)) fun i hi=>.bd (Q:=fun r=>Sm r n) (.ite (fun hc=>.bd (QjB h (by omega) (of_decide_eq_true hc) hi) fun r hr=>.ret (hr.mono (by omega))) fun _=>.ret h) fun r hr=>.bd (Qkg hr (by omega) hs) fun q hq=>.bd (QsU hq (by omega)) fun _ _=>.ite (fun _=>.ret hq) fun _=>.ret (h.mono (by omega))
theorem Qq0 {b:List Int} {p k:Int} (h:Rq b p k) (hk:k≤990000):Post (Je ⟨b,p⟩) fun x=>x.1.size≤60∧Rq b x.2.p (k+1):=by
 unfold Je;exact .bd (of5 h (by omega) (by kernel_rfl)) fun x hx=>.ret hx
theorem QuR {b:List Int} {p k:Int} (h:Rq b p k) (hk:k≤990000):Post (Qav ⟨b,p⟩) fun x=>x.1.size≤60∧Rq b x.2.p (k+1):=by
 unfold Qav;exact .bd (of5 h (by omega) (by kernel_rfl)) fun x hx=>.ret hx
theorem QpR {b:List Int} {p k:Int} (h:Rq b p k) (hk:k≤900000):Post (Qbi ⟨b,p⟩) fun x=>x.1.size≤900∧Rq b x.2.p (k+12):=by
 unfold Qbi;refine .bd (pk5 h (by omega) (by omega)) fun x1 ⟨_,h1⟩=>?_
 repeat' first
  |refine Post.ite (fun _=>?_) (fun _=>?_)
  |refine Post.gd ?_ ?_
  |(refine Post.bd (of5 (by assumption) (by omega) (by kernel_rfl)) ?_;rintro _ ⟨_,_⟩)
  |(refine Post.bd (Qq0 (by assumption) (by omega)) ?_;rintro _ ⟨_,_⟩)
  |(refine Post.bd (QuR (by assumption) (by omega)) ?_;rintro _ ⟨_,_⟩)
  |refine Post.bd (Q:=fun _=>True) (Post.ite (fun _=>.ret trivial) (fun _=>.ret trivial)) fun _ _=>?_
  |(refine Post.bd (Q:=fun x=>x.2.size≤100∧Rq b x.1 (k+3)) (Post.bd (pk5 (by assumption) (by omega) (by omega)) ?_) ?_<;>rintro _ ⟨_,_⟩)
  |refine Post.ret ⟨?_,Rq.mono (by assumption) (by omega)⟩
  |((try dsimp only);simp only[ByteArray.size_append,Qjc,List.size_toArray,List.length_cons,List.length_nil];omega)
theorem QsW {b:List Int} {p k:Int} (h:Rq b p k) (hk:k≤800000):Post (Qch ⟨b,p⟩) fun x=>x.1.size≤900∧Rq b x.2.p (k+14):=by
 unfold Qch;refine .bd (pk1 h (by omega) (by omega)) fun x1 ⟨_,h1⟩=>?_
 repeat' first
  |refine Post.ite (fun _=>?_) (fun _=>?_)
  |refine Post.gd ?_ ?_
  |(refine Post.bd (of1 (by assumption) (by omega) (by kernel_rfl)) ?_;rintro _ ⟨_,_⟩)
  |(refine Post.bd (QpR (by assumption) (by omega)) ?_;rintro _ ⟨_,_⟩)
  |refine Post.bd (Q:=fun _=>True) (Post.ite (fun _=>.ret trivial) (fun _=>.ret trivial)) fun _ _=>?_
  |refine Post.bd (Q:=fun _=>True) (Post.ite (fun _=>.ret trivial) (fun _=>Post.ite (fun _=>.ret trivial) (fun _=>.ret trivial))) fun _ _=>?_
  |refine Post.ret ⟨?_,Rq.mono (by assumption) (by omega)⟩
  |((try dsimp only);assumption)
  |((try dsimp only);simp only[ByteArray.size_append,Qjc,List.size_toArray,List.length_cons,List.length_nil];omega)
theorem QuS {b:List Int} {p k:Int} (h:Rq b p k) (hk:k≤1000):Post (Qci ⟨b,p⟩) fun x=>Sm x.1 15∧Rq b x.2.p (k+200):=by
 unfold Qci;refine .bd (Q:=fun x=>Sm x.1 7∧Rq b x.2 (k+12)) (.lp (fun s=>∃i:Nat,s.2.2=(i:Int)∧i≤6∧Sm s.2.1 (1+i)∧Rq b s.1 (k+2*i)) (fun s=>6-s.2.2.toNat) ⟨0,rfl,by omega,⟨by simp,fun s hs=>?_⟩,by simpa using h⟩ ?_) ?_
 ·have:s=_:=List.mem_singleton.1 hs;rw[this];simp only[Qjc,List.size_toArray,List.length_cons,List.length_nil];omega
 ·rintro⟨p1,ls,z⟩ ⟨i,e,hi,hs,hr⟩;dsimp only at e hs hr⊢;subst e;refine .ite (fun hc=>?_) fun _=>.ret ⟨hs.mono (by omega),hr.mono (by omega)⟩;have hi6:i<6:=by
   have:=of_decide_eq_true hc;simp only[List.length_cons,List.length_nil] at this;omega
  have ew:IntKind.i64.wrap ((i:Int)+1)=((i+1:Nat):Int):=Qk hi6 (by omega)
  repeat' first
   |refine Post.ite (fun _=>?_) (fun _=>?_)
   |refine Post.gd ⟨by omega,by simp only[List.length_cons,List.length_nil];omega⟩ ?_
   |(refine Post.bd (pk1 (by assumption) (by omega) (by omega)) ?_;rintro _ ⟨_,_⟩)
   |(refine Post.bd (Qkh hs (by omega) (Nat.le_trans (QsT (n:=60) (by kernel_rfl) (by simp only[List.length_cons,List.length_nil];omega)) (by omega))) ?_;intro _ _)
   |exact Post.ret ⟨⟨i+1,ew,by omega,Sm.mono (by assumption) (by omega),Rq.mono (by assumption) (by omega)⟩,by dsimp only;rw[ew];omega⟩
 ·rintro⟨ls,p1⟩ ⟨hs,hr⟩;dsimp only at hs hr⊢;refine .bd (Q:=fun x=>Sm x.2 10∧Rq b x.1 (k+30)) (.bd (pk1 hr (by omega) (by omega)) ?_) ?_
  ·rintro x ⟨_,hx⟩
   repeat' first
    |refine Post.ite (fun _=>?_) (fun _=>?_)
    |refine Post.gd ?_ ?_
    |(refine Post.bd (of1 (by assumption) (by omega) (by kernel_rfl)) ?_;rintro _ ⟨_,_⟩)
    |(refine Post.bd (Qkh (by assumption) (by omega) (by first|omega|(simp only[ByteArray.size_append,Qjc,List.size_toArray,List.length_cons,List.length_nil];omega))) ?_;intro _ _)
    |exact Post.ret ⟨Sm.mono (by assumption) (by omega),Rq.mono (by assumption) (by omega)⟩
    |(simp only[ByteArray.size_append,Qjc,List.size_toArray,List.length_cons,List.length_nil];omega)
  ·rintro⟨p2,ls2⟩ ⟨hs2,hr2⟩;dsimp only at hs2 hr2⊢;refine .bd (pk1 hr2 (by omega) (by omega)) ?_;rintro⟨n,r3⟩ ⟨⟨hn0,hn1⟩,hr3⟩;dsimp only at hn0 hn1 hr3⊢;refine .bd (Q:=fun x=>Sm x.1 15∧Rq b x.2 (k+200)) (.lp (fun s=>∃i:Nat,s.2.2=(i:Int)∧i≤5∧Sm s.2.1 (10+(5-i))∧Rq b s.1 (k+31+14*((5:Int) -i))) (fun s=>s.2.2.toNat) ⟨n.toNat,by dsimp only;omega,by omega,hs2.mono (by omega),hr3.mono (by omega)⟩ ?_) ?_
   ·rintro⟨p4,ls4,z⟩ ⟨i,e,hi,hs4,hr4⟩;dsimp only at e hs4 hr4⊢;subst e;refine .ite (fun hc=>?_) fun _=>.ret ⟨hs4.mono (by omega),hr4.mono (by omega)⟩;have hc:=of_decide_eq_true hc;have ew:IntKind.i64.wrap ((i:Int) -1)=((i-1:Nat):Int):=(Qs (by omega) (by omega)).trans (by omega);refine .bd (QsW hr4 (by omega)) ?_;rintro x ⟨hx,hr5⟩;refine .bd (Qkh hs4 (by omega) (by omega)) fun ls5 hs5=>.ret ⟨⟨i-1,ew,by omega,hs5.mono (by omega),hr5.mono (by omega)⟩,?_⟩;dsimp only;rw[ew];omega
   ·rintro x ⟨h1,h2⟩;exact .ret ⟨h1,h2⟩
theorem QsX {xs:List Bt} {n:Nat} (h:Sm xs n) (hn:n≤1000):Qbu xs=some xs:=by
 unfold Qbu;rw[Qc (by have:=h.few;omega)]
theorem QwY {xs:List Bt} {n:Nat} {i:Nat} {s:Bt} (h:Sm xs n) (hs:s.size≤1100+100*n):Sm (xs.set i s) (n+1):=by
 refine⟨by rw[List.length_set];have:=h.few;omega,fun x hx=>?_⟩;rcases List.mem_or_eq_of_mem_set hx with hx|rfl
 ·have:=h.short x hx;omega
 ·omega
theorem QsY {b:List Int} {p k:Int} {xs:List Bt} (h:Rq b p k) (hk:k≤10000) (hs:Sm xs 15):Post (Qbv ⟨b,p⟩ xs) fun x=>Sm x.1 40∧Rq b x.2.p (k+100):=by
 have hf:=hs.few;unfold Qbv;rw[QsX hs (by omega),Qb];have fill:∀(q:Int),Rq b q (k+1)→∀(step:List Bt×Int×Int→Option ((List Bt×Int×Int)⊕(Nat×List Bt×Int))),
   (∀(i:Nat) (ys:List Bt) (q:Int),i≤17→Sm ys (15+i)→Rq b q (k+1+i)→Post (step (ys,q,(i:Int))) fun r=>match r with| .inl s'=>(∃j:Nat,s'.2.2=(j:Int)∧j≤17∧j=i+1∧Sm s'.1 (15+j)∧Rq b s'.2.1 (k+1+j))| .inr d=>Sm d.2.1 40∧Rq b d.2.2 (k+30))→
   Post (lp step (xs,q,0)) fun d=>Sm d.2.1 40∧Rq b d.2.2 (k+30):=by
  intro q hq step hstep;refine .lp (fun s=>∃i:Nat,s.2.2=(i:Int)∧i≤17∧Sm s.1 (15+i)∧Rq b s.2.1 (k+1+i)) (fun s=>18-s.2.2.toNat) ⟨0,rfl,by omega,hs,by simpa using hq⟩ ?_;rintro⟨ys,q1,z⟩ ⟨i,e,hi,h1,h2⟩;dsimp only at e h1 h2;subst e;refine(hstep i ys q1 hi h1 h2).mono fun r hr=>?_
  cases r with
  |inl s'=>
   obtain⟨j,e,hj,hij,h3,h4⟩:=hr;refine⟨⟨j,e,hj,h3,h4⟩,?_⟩;dsimp only;rw[e];omega
  |inr d=>exact hr
 refine .bd (Q:=fun r=>match r with| .inl d=>0<xs.length∧Rq b d (k+1)| .inr d=>Sm d.2.1 40∧Rq b d.2.2 (k+30)) (.ite (fun h0=>.ite (fun _=>.bd (fill p (h.mono (by omega)) _ ?_) fun d hd=>.ret hd) fun hn=>absurd (by rw[h0];rfl) hn) fun h0=>.bd (pk5 h (by omega) (by omega)) ?_) ?_
 ·intro i ys q hi hy hq;dsimp only;refine .bd (pk5 hq (by omega) (by omega)) ?_;rintro⟨v,r⟩ ⟨⟨hv0,hv1⟩,hr⟩;dsimp only at hv0 hv1 hr⊢;rw[Qs (n:=16+v) (by omega) (by omega)];refine .ite (fun hc=>?_) fun _=>.ret ⟨hy.mono (by omega),hr.mono (by omega)⟩;have hc:=of_decide_eq_true hc;have hi17:i<17:=by omega
  have ew:IntKind.i64.wrap ((i:Int)+1)=((i+1:Nat):Int):=Qk hi17 (by omega);refine .gd ⟨by omega,by simp only[List.length_cons,List.length_nil];omega⟩ ?_;have hsz:=QsT (n:=60) (i:=(i:Int).toNat) (xs:=([(⟨#[49,48]⟩:Bt),(⟨#[49,49]⟩:Bt),(⟨#[49,50]⟩:Bt),(⟨#[49,51]⟩:Bt),(⟨#[49,52]⟩:Bt),(⟨#[49,53]⟩:Bt),(⟨#[49,54]⟩:Bt),(⟨#[49,55]⟩:Bt),(⟨#[49,56]⟩:Bt),(⟨#[49,57]⟩:Bt),(⟨#[50,48]⟩:Bt),(⟨#[50,49]⟩:Bt),(⟨#[50,50]⟩:Bt),(⟨#[50,51]⟩:Bt),(⟨#[50,52]⟩:Bt),(⟨#[50,53]⟩:Bt),(⟨#[50,54]⟩:Bt)]:List Bt)) (by kernel_rfl) (by simp only[List.length_cons,List.length_nil];omega);refine .gd (by simp only[Qjc,List.size_toArray,List.length_cons,List.length_nil] at*;omega) (.gd (by simp only[ByteArray.size_append,Qjc,List.size_toArray,List.length_cons,List.length_nil] at*;omega) (.bd (Qkg hy (by omega) (by simp only[ByteArray.size_append,Qjc,List.size_toArray,List.length_cons,List.length_nil] at*;omega)) fun ys2 h2=>.ret ⟨i+1,ew,by omega,rfl,h2,hr.mono (by omega)⟩))
 ·rintro⟨v,r⟩ ⟨_,hr⟩;dsimp only at hr⊢;refine .ite (fun _=>.bd (fill r.p hr _ ?_) fun d hd=>.ret hd) fun _=>.ret ⟨?_,hr⟩
  ·intro i ys q hi hy hq;dsimp only;refine .bd (pk5 hq (by omega) (by omega)) ?_;rintro⟨v,r⟩ ⟨⟨hv0,hv1⟩,hr⟩;dsimp only at hv0 hv1 hr⊢;rw[Qs (n:=16+v) (by omega) (by omega)];refine .ite (fun hc=>?_) fun _=>.ret ⟨hy.mono (by omega),hr.mono (by omega)⟩;have hc:=of_decide_eq_true hc;have hi17:i<17:=by omega
   have ew:IntKind.i64.wrap ((i:Int)+1)=((i+1:Nat):Int):=Qk hi17 (by omega);refine .gd ⟨by omega,by simp only[List.length_cons,List.length_nil];omega⟩ ?_;have hsz:=QsT (n:=60) (i:=(i:Int).toNat) (xs:=([(⟨#[49,48]⟩:Bt),(⟨#[49,49]⟩:Bt),(⟨#[49,50]⟩:Bt),(⟨#[49,51]⟩:Bt),(⟨#[49,52]⟩:Bt),(⟨#[49,53]⟩:Bt),(⟨#[49,54]⟩:Bt),(⟨#[49,55]⟩:Bt),(⟨#[49,56]⟩:Bt),(⟨#[49,57]⟩:Bt),(⟨#[50,48]⟩:Bt),(⟨#[50,49]⟩:Bt),(⟨#[50,50]⟩:Bt),(⟨#[50,51]⟩:Bt),(⟨#[50,52]⟩:Bt),(⟨#[50,53]⟩:Bt),(⟨#[50,54]⟩:Bt)]:List Bt)) (by kernel_rfl) (by simp only[List.length_cons,List.length_nil];omega);refine .gd (by simp only[Qjc,List.size_toArray,List.length_cons,List.length_nil] at*;omega) (.gd (by simp only[ByteArray.size_append,Qjc,List.size_toArray,List.length_cons,List.length_nil] at*;omega) (.bd (Qkg hy (by omega) (by simp only[ByteArray.size_append,Qjc,List.size_toArray,List.length_cons,List.length_nil] at*;omega)) fun ys2 h2=>.ret ⟨i+1,ew,by omega,rfl,h2,hr.mono (by omega)⟩))
  ·have h0:(((xs.length:Nat):Int)==0)=false:=by simpa using h0
   have:((xs.length:Nat):Int)≠0:=by simpa using h0
   omega
 ·rintro(d|d) hd
  ·obtain⟨hl,hr⟩:=hd;refine .bd (pk5 hr (by omega) (by omega)) ?_;rintro⟨i,r2⟩ ⟨⟨hi0,hi1⟩,hr2⟩;dsimp only at hi0 hi1 hr2⊢;have hm:xs.getD i.toNat default∈xs:=QaX (by omega);have hz:=hs.short _ hm;refine .bd (pk5 hr2 (by omega) (by omega)) ?_;rintro⟨j,r3⟩ ⟨_,hr3⟩;dsimp only at hr3⊢;refine .ite (fun _=>.gd ⟨hi0,hi1⟩ (.bd (QzR hr3 (by omega) (by kernel_rfl)) ?_)) fun _=>.ite (fun _=>.gd ⟨hi0,hi1⟩ (.gd (by simp only[List.length_cons,List.length_nil];omega) (.ret ⟨⟨?_,fun x hx=>?_⟩,hr3.mono (by omega)⟩))) fun _=>.ite (fun _=>.bd (of5 hr3 (by omega) (by kernel_rfl)) ?_) fun _=>.bd (QjB hs (by omega) hi0 hi1) fun ys hy=>.bd (QpR hr3 (by omega)) ?_
   ·rintro⟨w,r4,l4⟩ ⟨hw,hr4,el⟩;dsimp only at hw hr4 el⊢;exact .gd (by rw[el]) (.gd (by omega) (.gd ⟨hi0,hi1⟩ (.ret ⟨(QwY hs (by rw[ByteArray.size_append];omega)).mono (by omega),hr4.mono (by omega)⟩)))
   ·rw[List.length_append,List.length_cons,List.length_nil];omega
   ·rcases List.mem_append.1 hx with hx|hx
    ·have:=hs.short x hx;omega
    ·have:x=_:=List.mem_singleton.1 hx;rw[this];omega
   ·rintro x ⟨hx,hr4⟩;exact .gd ⟨hi0,hi1⟩ (.ret ⟨(QwY hs (by omega)).mono (by omega),hr4.mono (by omega)⟩)
   ·rintro x ⟨hx,hr4⟩;exact .bd (Qkg hy (by omega) (by omega)) fun zs hz2=>.ret ⟨hz2.mono (by omega),hr4.mono (by omega)⟩
  ·exact .ret ⟨hd.1,hd.2.mono (by omega)⟩
theorem Qwp {b:List Int} {p k:Int} (h:Rq b p k) (hk:k≤1000):Post (QcO ⟨b,p⟩) fun x=>Sm x.1 40∧Rq b x.2.p (k+400):=by
 unfold QcO;refine .bd (QuS h hk) ?_;rintro⟨ls,r⟩ ⟨hs,hr⟩;dsimp only at hs hr⊢;refine .bd (pk1 hr (by omega) (by omega)) ?_;rintro⟨v,r2⟩ ⟨_,hr2⟩;dsimp only at hr2⊢;refine .ite (fun _=>.bd (QsY hr2 (by omega) hs) ?_) fun _=>.ret ⟨hs.mono (by omega),hr2.mono (by omega)⟩;rintro x ⟨hx,hr3⟩;exact .ret ⟨hx,hr3.mono (by omega)⟩
theorem Ql4 {a:List Int} (ha:a.length≤9223372036854775807) (h:∀x∈a,QoX x):Post (JF a) fun x=>Sm x.1 50∧x.2.size≤60:=by
 unfold JF;refine .bd (QtV ha h) ?_;rintro⟨b,p⟩ ⟨o1,o2,o3,o4⟩;have hq:Rq b p 0:=⟨o1,o2,o3,o4⟩;refine .bd (Qwp hq (by omega)) ?_;rintro⟨ls,r⟩ ⟨hs,hr⟩;dsimp only at hs hr⊢;refine .bd (pk1 hr (by omega) (by omega)) ?_;rintro⟨v,r2⟩ ⟨_,hr2⟩;dsimp only at hr2⊢;refine .ite (fun _=>.bd (Q:=fun x=>Sm x.1 50∧Rq b x.2 1000) (.lp (fun s=>∃i:Nat,s.2.2=(i:Int)∧i≤4∧Sm s.2.1 (40+i)∧Rq b s.1 (500+2*i)) (fun s=>4-s.2.2.toNat) ⟨0,rfl,by omega,hs,hr2.mono (by omega)⟩ ?_) ?_) fun _=>.bd (of1 hr2 (by omega) (by kernel_rfl)) ?_
 ·rintro⟨p4,ls4,z⟩ ⟨i,e,hi,hs4,hr4⟩;dsimp only at e hs4 hr4⊢;subst e;refine .ite (fun hc=>?_) fun _=>.ret ⟨hs4.mono (by omega),hr4.mono (by omega)⟩;have hc:=of_decide_eq_true hc;have ew:IntKind.i64.wrap ((i:Int)+1)=((i+1:Nat):Int):=Qk (n:=4) (by omega) (by omega)
  repeat' first
   |refine Post.gd ?_ ?_
   |(refine Post.bd (of1 (by assumption) (by omega) (by kernel_rfl)) ?_;rintro _ ⟨_,_⟩)
   |(refine Post.bd (Qkh hs4 (by omega) (by simp only[ByteArray.size_append,Qjc,List.size_toArray,List.length_cons,List.length_nil];omega)) ?_;intro _ _)
   |exact Post.ret ⟨⟨i+1,ew,by omega,Sm.mono (by assumption) (by omega),Rq.mono (by assumption) (by omega)⟩,by dsimp only;rw[ew];omega⟩
   |(simp only[ByteArray.size_append,Qjc,List.size_toArray,List.length_cons,List.length_nil];omega)
 ·rintro⟨ls5,p5⟩ ⟨hs5,hr5⟩;dsimp only at hs5 hr5⊢;refine .bd (of1 hr5 (by omega) (by kernel_rfl)) ?_;rintro x ⟨hx,_⟩;exact .ret ⟨hs5,hx⟩
 ·rintro x ⟨hx,_⟩;exact .ret ⟨hs.mono (by omega),hx⟩
theorem Qy2 {ls:List Bs} (l x:Bs):((((Qc2 ls==0)&&(decide (((((wsL x).map tS).length:Nat):Int)>1)))&&((((wsL x).map tS).getD 0 default)==(⟨#[114,117,108,101]⟩:Bt)))&&((((wsL x).map tS).getD 1 default)==tS l))=isR ls l x:=by
 unfold isR;have e:decide (((((wsL x).map tS).length:Nat):Int)>1)=decide (1<(wsL x).length):=by
  rw[List.length_map,decide_eq_decide];omega
 rw[e]
 by_cases h:1<(wsL x).length
 ·rw[ZI (by omega:0<(wsL x).length),ZI h,show(tS ((wsL x).getD 0 [])==(⟨#[114,117,108,101]⟩:Bt))=_ from Z2 _ wRule,Z2]
 ·rw[decide_eq_false h,Bool.and_false,Bool.false_and,Bool.false_and,Bool.false_and,Bool.false_and]
--LAW FnTernLines
theorem Qot {a0:List Int} (h:a0.length≤9223372036854775807∧∀x∈a0,QoX x):Qbn a0=some true:=by
 unfold Qbn
 by_cases hc:decide (((a0.length:Nat):Int)>1048576)=true
 ·rw[if_pos hc]
 rw[if_neg hc];obtain⟨⟨xs,l0⟩,e,hs,hl⟩:=Ql4 h.1 h.2;rw[e,Qb];dsimp only at hs hl⊢;rw[QzO xs,←Qsx l0];have S:Small (xs.map tB):=⟨fun l hl=>by
  obtain⟨s,hs',rfl⟩:=List.mem_map.1 hl;have:=hs.short s hs';rw[QtX];omega,by rw[List.length_map];have:=hs.few;omega⟩
 generalize xs.map tB=ls at S;generalize tB l0=l;clear e hs hl hc xs l0;have hf:=S.few;obtain⟨r1,r2,r3⟩:=Qwk S l;obtain⟨n1,n2,n3⟩:=Qy1 S;obtain⟨t1,t2⟩:=Qwj S;obtain⟨v1,v2⟩:=Qwo S;rw[QuG S,Qb,Qwe S,Qb,QuE S,Qb,Qx9 S,Qb,Qx7 S,Qb,Qut S,Qb,QuK (by omega),Qb,beq_self_eq_true,Qr (by rfl),Qwg (by omega) (by omega),Qb];obtain⟨v,ev,hv⟩:∃v,Qt ((QsH ls).2=true∧(((!true)||(!true))||(!true))=false) (JB (QsH ls).1)=some v∧((QsH ls).2&&(!v))=false:=by
  cases hb:(QsH ls).2 with
  |true=>exact⟨true,by rw[Qr ⟨rfl,rfl⟩,n1 hb],rfl⟩
  |false=>exact⟨default,by rw[Q3 (fun q=>by cases q.1)],rfl⟩
 rw[ev,Qb,hv,Qr (by rfl),r1,Qb,if_neg (by decide),QpI S,Qb,Quu S,Qb,QuL (by omega),Qb,Qr (by rfl),QsO S,Qb,Qr (by rfl),t1,Qb,if_neg (by decide)];rw[QwQ ls (isR ls l) (fun k=>k) (fun i k hi hk=>?_) (fun k hk=>by dsimp only;rw[if_neg (by simp)]),Qb,Qv7 S,Qb,QqZ S l,←r3,if_neg (by simp)]
 ·rw[Qb7 (QpA ls).length (fun _=>true) (.inl ()) (.inr ()) (fun i hi _=>?_) (fun _=>by rw[if_neg (by simp)]),if_pos (Qax fun _ _=>rfl),Qb]
  ·dsimp only;rw[Qb7 (Qff ls).length (fun _=>true) (.inl ()) (.inr ()) (fun i hi _=>?_) (fun _=>by rw[if_neg (by simp)]),if_pos (Qax fun _ _=>rfl),Qb]
   ·dsimp only;rw[Qus S,Qb,beq_self_eq_true]
   ·obtain⟨k,ek,hk⟩:=QsR S _ (QaX hi);rw[if_pos (by simp;omega),Qc (by omega),Int.toNat_natCast,ek,Qb,show decide (k<0)=false from decide_eq_false (by omega)]
    by_cases h0:0<i
    ·have hr:=QsS S h0 hi;rw[Qdv hi h0 (by omega),Int.toNat_natCast,Qc (fun _ _=>by omega),Qc (fun _ _=>by omega),decide_eq_false (by omega:¬((Qff ls).getD (i-1) default).Addr≥((Qff ls).getD i default).Addr),Bool.and_false,if_neg (by decide),if_pos rfl,Qk hi (by omega)]
    ·have e0:decide ((i:Int)>0)=false:=decide_eq_false (by omega);rw[e0,Qc (fun q=>absurd q (by decide)),Qc (fun q=>absurd q (by decide)),Bool.false_and,if_neg (by decide),if_pos rfl,Qk hi (by omega)]
  ·obtain⟨k,ek,hk⟩:=QuQ S _ (QaX hi);rw[if_pos (by simp;omega),Qc (by omega),Qc (by omega),Int.toNat_natCast];simp only[beq_self_eq_true,Bool.and_true,Bool.not_true];rw[Qc (fun _=>by omega),Qr trivial,ek,Qb,show decide (k<0)=false from decide_eq_false (by omega),if_neg (by decide),if_pos trivial,Qk hi (by omega)]
 ·obtain⟨b,ew⟩:=QyT (S.len _ (Qat hi));dsimp only;rw[if_pos (by simp;omega),Qc (by rw[List.length_map];omega),Int.toNat_natCast,ZI hi,ew,Qb,QfI S.len (by omega),Qb,Qc (fun q=>?_),Qc (fun q=>?_),Qy2,Qk hi (by omega)]
  ·have el:(ls.getD i default)=ls.getD i []:=rfl;rw[el]
   cases isR ls l (ls.getD i [])
   ·rw[if_neg (by decide),if_neg (by decide)]
   ·rw[if_pos rfl,if_pos rfl,Qk (n:=ls.length) (by omega) (by omega)]
  ·simp only[Bool.and_eq_true,decide_eq_true_eq] at q;dsimp only at q⊢;omega
  ·simp only[Bool.and_eq_true,decide_eq_true_eq] at q;dsimp only at q⊢;omega
end Go.Proofs.YtfpbhbbdhfbilaaGreatDoor
