/-
  Calls, weakening, loops: a part of the frame in which a given row's proof walks the program; no condition.
-/
import Derived.Test.YtmnnglbioibmfaaGreatDoorAbz2
import Derived.Deep.LoopGhost
set_option linter.all false
namespace Go.Ab
open Go.RowKit
variable {P:Program} {tb:Tb} {w:World} {ow:Nat→Prop} {ρ:Env} {a:Act} {B:Bd} {w0:World} {F:List (Array Value)} {S:St}
def Ql8:Nat→List V→List (Nat×V)
 |_,[]=>[]
 |i,v::r=>(i,v)::Ql8 (i+1) r
theorem QfY:∀ {i:Nat} {vs:List V} {t:Nat} {v:V},Qh (Ql8 i vs) t=some v→i≤t∧vs[t-i]? =some v
 |i,u::r,t,v,h=>by
  rcases QT h with ⟨rfl,rfl⟩|⟨hn,h⟩
  ·simp
  ·obtain⟨h1,h2⟩:=QfY h;refine⟨by omega,?_⟩;rw[show t-i=(t-(i+1))+1 by omega];simpa using h2
 |i,[],t,v,h=>by simp[Ql8,Qh] at h
theorem QhV {vals:Array Value} {k t:Nat} (h:t<vals.size):(vals++Array.replicate k undef).getD t undef=vals.getD t undef:=by
 simp[Array.getD_eq_getD_getElem?,Array.getElem?_append_left h]
def Qxs (base nt:Nat) (K:V→St→Prop) (S':St) (v:V):Prop:=match S' with
 |⟨_,_,_,_,bs,⟨ts,gs⟩::fs⟩=>K v ⟨base,nt,ts,gs,bs,fs⟩
 | _ => Stuck "return"
def Qxt (tb:Tb) (rs:List ResultVar) (base nt:Nat) (K:V→St→Prop):Exit→St→Prop:=fun e S'=>match e with
 | .ret=>Qpj tb rs S' (Qxs base nt K S')
 | .normal=>Qpj tb rs S' (Qxs base nt K S')
 | _ => Stuck "return no way out"
theorem Qqp (hT:TOk P tb) {fn:Func} {base:Nat} {K:V→St→Prop} {ac:Act} (hnt:ac.tmps.size=S.nt) (hdf:ac.defers=[]) {S':St} {a':Act} (h:Sim P B w0 (ac.tmps::F) ρ S' a' w)
  (hk:Qpj tb fn.results.toList S' (Qxs base S.nt K S')):
  a'.defers=[]∧∃v,(results fn a'.tmps).run P w=.ok v w∧∃v' ρ' x S'',Ending.returned v=.returned v'∧Sim P B w0 F ρ' S'' ac w∧VR w (ZM B S''.blks ρ') ρ' x v'∧K x S'':=by
 obtain⟨x,v,h1,h2,h3⟩:=QhU hT h fn _ hk;refine⟨h.defers,v,h1,v,ρ,x,?_⟩;obtain⟨b',nt',ts',gs',bs',fs'⟩:=S'
 cases fs' with
 |nil=>exact h3.no.elim
 |cons f fs=>
  obtain⟨ts,gs⟩:=f;refine⟨⟨base,S.nt,ts,gs,bs',fs⟩,rfl,⟨h.below,h.tab,h.hB,hdf,hnt,h.frames.2 0 ⟨ts,gs⟩ ac.tmps rfl rfl,h.blks,h.sep,h.ge,by simpa using h.frames.1,fun i f tm hf ht=>h.frames.2 (i+1) f tm (by simpa using hf) (by simpa using ht)⟩,h2,h3⟩
theorem Qqq (hT : TOk P tb) {f : FuncId} {fn : Func} {c : Code} {args : List V} {K : V → St → Prop} (b : Nat) (hf : P.funcs[f]? = some fn) (hb : fn.body = some c) (hn : (fn.name == "runtime.NumGoroutine") = false) (hl : Nat.ble args.length fn.ntmps = true)
  (h:wpc P tb c ⟨b,fn.ntmps,Ql8 0 args,[],S.blks,⟨S.tmps,S.gds⟩::S.frames⟩ (Qxt tb fn.results.toList S.base S.nt K)):CallP P f args S K:=by
 refine⟨⟨fn,hf,hn,by simp[hb]⟩,fun B w0 F ρ a w vals hs hv=>?_⟩;have hl:=Nat.le_of_ble_eq_true hl;have hvs:=hv.1;refine calls_of_wp hf hb (wp_mono (JJ hT c _ _ h B w0 (a.tmps::F) ρ ⟨vals++Array.replicate (fn.ntmps-vals.size) undef,[]⟩ w ?_) ?_)
 ·refine⟨hs.below,hs.tab,hs.hB,rfl,by simp;omega,⟨fun t v ht=>?_,fun g hg=>by simp at hg⟩,hs.blks,hs.sep,hs.ge,by simpa using hs.frames.1,fun i fr tm hfr htm=>?_⟩
  ·obtain⟨_,h2⟩:=QfY ht;have hlt:=(List.getElem?_eq_some_iff.1 h2).1;simp only[Nat.sub_zero] at h2 hlt;dsimp only;rw[QhV (by omega)];exact hv.2 t v h2
  ·cases i with
   |zero=>simp at hfr htm;subst hfr htm;exact hs.top
   |succ i=>exact hs.frames.2 i fr tm (by simpa using hfr) (by simpa using htm)
 ·rintro e a' w' ⟨ρ',S',h1,h2⟩
  cases e<;>simp only[Qxt] at h2<;>first
   |exact h2.no.elim
   |exact Qqp (S:=S) hT hs.nt hs.defers h1 h2
def QhW:D→Bool
 | .sl ..=>false
 | .fn ..=>false
 |_=>true
mutual
def QbR:V→Bool
 | .any=>true
 | .d x=>QhW x
 | .osl ..=>true
 | .agg vs=>Qqr vs
 | .tup vs=>Qqr vs
 |_=>false
def Qqr:List V→Bool
 |[]=>true
 |v::r=>QbR v&&Qqr r
end
theorem QdO:∀ {vs:List V} {j:Nat} {v:V},Qqr vs=true→vs[j]? =some v→QbR v=true
 |u::r,0,v,h,hj=>by simp at hj;subst hj;simp[Qqr] at h;exact h.1
 |u::r,j+1,v,h,hj=>by simp[Qqr] at h;exact QdO h.2 (by simpa using hj)
 |[],_,_,_,hj=>by simp at hj
theorem DR.atom {x v} (h:DR w ow x v) (hx:QhW x=true) (w':World) (ow':Nat→Prop):DR w' ow' x v:=by
 cases h with
 |int=>exact .int
 |bool=>exact .bool
 |str=>exact .str
 |nil=>exact .nil
 |zn=>exact .zn
 |sl0=>simp[QhW] at hx
 |sl=>simp[QhW] at hx
 |fn=>simp[QhW] at hx
theorem DR.free {x v} (h:DR w ow x v):DR w (fun _=>False) x v:=h.keep ⟨Nat.le_refl _,fun _ _ _=>⟨rfl,fun h=>h⟩⟩
mutual
def V.shift (k:Nat):V→V
 | .ref i r o=>.ref (i+k) r o
 | .osl i o l=>.osl (i+k) o l
 | .agg vs=>.agg (Qgi k vs)
 | .tup vs=>.tup (Qgi k vs)
 | .fn f vs=>.fn f (Qgi k vs)
 | .any=>.any
 | .d x=>.d x
 | .rp cs=>.rp cs
def Qgi (k:Nat):List V→List V
 |[]=>[]
 |v::r=>v.shift k::Qgi k r
end
theorem QhX {k:Nat}:∀(vs:List V) (j:Nat),(Qgi k vs)[j]? =(vs[j]?).map (V.shift k)
 |[],j=>by simp[Qgi]
 |v::r,0=>by simp[Qgi]
 |v::r,j+1=>by simpa[Qgi] using QhX r j
theorem QeO {k:Nat}:∀(vs:List V),(Qgi k vs).length=vs.length
 |[]=>rfl
 |v::r=>by simp[Qgi,QeO r]
theorem VR.shiftFlat {v x} {k:Nat} {ρ':Env} {w':World} {ow':Nat→Prop} (h:VR w ow ρ v x) (hf:QbR v=true) (hr:∀id,v.mentions id=true→ρ' (id+k)=ρ id):VR w' ow' ρ' (v.shift k) x:=by
 induction h with
 |any=>exact .any
 |d h=>exact .d (h.atom hf _ _)
 |ref h1 h2=>simp[QbR] at hf
 |osl0 h0 h1=>rename_i id off len ad;exact .osl0 h0 (by rw[hr id (by simp[V.mentions])];exact h1)
 |osl h1 h2 h3=>
  rename_i id off len;have e:=hr id (by simp[V.mentions]);rw[←e];exact .osl (by rw[e];exact h1) (by rw[e];exact h2) (by rw[e];exact h3)
 |rp=>simp[QbR] at hf
 |agg hs h1 hv ih=>
  refine .agg (by rw[QeO];exact hs) h1 fun j v hj=>?_;rw[QhX] at hj;obtain⟨v',hv',rfl⟩:=Option.map_eq_some_iff.1 hj;exact ih j v' hv' (QdO (by simpa[QbR] using hf) hv') fun id hm=>hr id (by simpa[V.mentions] using Q9 hv' hm)
 |tup hs hv ih=>
  refine .tup (by rw[QeO];exact hs) fun j v hj=>?_;rw[QhX] at hj;obtain⟨v',hv',rfl⟩:=Option.map_eq_some_iff.1 hj;exact ih j v' hv' (QdO (by simpa[QbR] using hf) hv') fun id hm=>hr id (by simpa[V.mentions] using Q9 hv' hm)
 |fn hs hv ih=>simp[QbR] at hf
structure Nb where
 id:Nat
 t:TypeId
 sz:Nat
 n:Nat
 row:Nat→List D
def Nb.ent (k:Nat) (b:Nb):Nat×Blk:=(b.id+k,.arr b.t b.sz b.n b.row)
structure PureC (P:Program) (f:FuncId) (args:List V) (res:V) (nb:List Nb):Prop where
 can:Callable P f
 flat:QbR res=true
 rows:∀b∈nb,∀i,i<b.n→∀d∈b.row i,QhW d=true
 dist:nb.Pairwise fun x y=>x.id≠y.id
 ids:∀id,res.mentions id=true→∃b∈nb,b.id=id
 out:∀w vals ρ0,QgA w (fun _=>False) ρ0 args vals→TabB P (fun b=>b<w.heap.size) w→Calls P f vals w fun e w'=>∃v ρ,e=.returned v∧Pure w w'∧VR w' (fun b=>b<w.heap.size) ρ res v∧
  (∀b∈nb,BR w' (fun b=>b<w.heap.size) ρ b.id (.arr b.t b.sz b.n b.row))∧(∀x∈nb,∀y∈nb,(ρ x.id).ph=false→(ρ y.id).ph=false→(ρ x.id).b=(ρ y.id).b→x.id=y.id)∧(∀x∈nb,(ρ x.id).ph=false→w.heap.size≤(ρ x.id).b)
theorem BR.shiftFlat {b:Nb} {k:Nat} {ρ':Env} {w':World} {ow':Nat→Prop} (h:BR w ow ρ b.id (.arr b.t b.sz b.n b.row)) (hf:∀i,i<b.n→∀d∈b.row i,QhW d=true) (hr:ρ' (b.id+k)=ρ b.id) (hw:w'.heap=w.heap):
  BR w' ow' ρ' (b.id+k) (.arr b.t b.sz b.n b.row):=by
 cases h with
 |arr0 h1 h2 h3 h4=>exact .arr0 (by rw[hr];exact h1) (by rw[hr];exact h2) (by rw[hr];exact h3) h4
 |arr C et h1 h2 h3 h4 h5 h6 h7 h8=>
  refine .arr C et (by rw[hr];exact h1) (by rw[hr];exact h2) (by rw[hr];exact h3) (by rw[hr];exact h4) h5 (by rw[hr,hw];exact h6) (by rw[hr];exact h7) fun i j d hi hd=>?_;rw[hr];exact(h8 i j d hi hd).atom (hf i hi d (List.mem_of_getElem? hd)) _ _
theorem SimO.shrink (h:SimO P ow B w0 F ρ S a w) (hs:∀b,ZM B S.blks ρ b→ow b):Sim P B w0 F ρ S a w:=by
 have k:Keep w ow w (ZM B S.blks ρ):=⟨Nat.le_refl _,fun b _ ho=>⟨rfl,fun h=>ho (hs b h)⟩⟩;exact⟨h.below,h.tab,h.hB,h.defers,h.nt,h.top.keep k fun _ _=>rfl,fun id b hb=>(h.blks id b hb).keep k rfl (fun _=>rfl) fun _ _=>rfl,h.sep,h.ge,h.frames.1,fun i f tm hf ht=>(h.frames.2 i f tm hf ht).keep k fun _ _=>rfl⟩
theorem QrB {id:Nat} {blk:Blk} {loc:Loc} (h:SimO P ow B w0 F ρ S a w) (hm:S.mentions id=false) (hnew:loc.ph=false→ow loc.b∧¬own S.blks ρ loc.b∧B.free loc blk.bx) (hbr:BR w ow (ρ.set id loc) id blk):
  SimO P ow B w0 F (ρ.set id loc) ⟨S.base,S.nt,S.tmps,S.gds,(id,blk)::S.blks,S.frames⟩ a w:=by
 obtain⟨m1,m2,m3,m4⟩:=St.mentions_parts hm;have keep:Keep w ow w ow:=⟨Nat.le_refl _,fun b _ ho=>⟨rfl,ho⟩⟩;have hr:∀i,i≠id→ρ.set id loc i=ρ i:=fun i hi=>Env.set_other hi;refine⟨h.below,h.tab,h.hB,h.defers,h.nt,?_,?_,?_,?_,h.frames.1,?_⟩
 ·exact h.top.keep keep fun i hi=>hr i (by rcases hi with hi|hi;exact QcR (p:=fun i=>Js i S.tmps) m1 hi;exact QcR (p:=fun i=>Jt i S.gds) m2 hi)
 ·intro i b hb;rcases QT hb with ⟨rfl,rfl⟩|⟨hn,hb0⟩
  ·exact hbr
  ·refine(h.blks i b hb0).keep keep (hr i (Ne.symm hn)) (fun _=>rfl) fun j hj=>hr j fun e=>?_;subst e;have:QY j S.blks=true:=ZZ (id:=j) hb0 (.inr hj);rw[m3] at this;cases this
 ·intro i j x y hx hy hpi hpj hij;rcases QT hx with ⟨rfl,_⟩|⟨hn,hx⟩<;>rcases QT hy with ⟨rfl,_⟩|⟨hn',hy⟩
  ·rfl
  ·rw[Env.set_same] at hpi hij;rw[Env.set_other (Ne.symm hn')] at hpj hij;exact absurd ⟨j,y,hy,hpj,hij.symm⟩ (hnew hpi).2.1
  ·rw[Env.set_same] at hpj hij;rw[Env.set_other (Ne.symm hn)] at hpi hij;exact absurd ⟨i,x,hx,hpi,hij⟩ (hnew hpj).2.1
  ·rw[Env.set_other (Ne.symm hn)] at hpi hij;rw[Env.set_other (Ne.symm hn')] at hpj hij;exact h.sep i j x y hx hy hpi hpj hij
 ·intro i x hx hp;rcases QT hx with ⟨rfl,rfl⟩|⟨hn,hx⟩
  ·rw[Env.set_same] at hp⊢;exact(hnew hp).2.2
  ·rw[Env.set_other (Ne.symm hn)] at hp⊢;exact h.ge i x hx hp
 ·intro i f tm hf ht;refine(h.frames.2 i f tm hf ht).keep keep fun j hj=>hr j fun e=>?_;subst e;have:=Qd1 (id:=j) hf hj;rw[m4] at this;cases this
end Go.Ab
namespace Go.Ab
open Go.RowKit
variable {P:Program} {tb:Tb} {w:World} {ow:Nat→Prop} {ρ:Env} {a:Act} {B:Bd} {w0:World} {F:List (Array Value)} {S:St}
def Ql9 (blk:Nat→Option Blk):List V→Option (List D)
 |[]=>some []
 | .d x::r=>(match Ql9 blk r with
  |some ds=>some (x::ds)
  |none=>none)
 | .osl id off len::r=>(match blk id,Ql9 blk r with
  |some (.arr _ _ _ row),some ds=>some (.sl len (ZA off row)::ds)
  |_,_=>none)
 |_=>none
def slV (blk:Nat→Option Blk) (id off len:Nat):Option D:=match blk id with
 |some (.arr _ _ _ row)=>some (.sl len (ZA off row))
 |some (.box t cs)=>(match off,bcl t,Ql9 blk cs with
  |0,n+1,some ds=>some (.sl len (Qm5 (cs.length/(n+1)) ds))
  |_,_,_=>none)
 |none=>none
def Qma (blk:Nat→Option Blk):List V→Option (List D)
 |[]=>some []
 | .d x::r=>(match Qma blk r with
  |some ds=>some (x::ds)
  |none=>none)
 | .osl id off len::r=>(match slV blk id off len,Qma blk r with
  |some d,some ds=>some (d::ds)
  |_,_=>none)
 |_=>none
mutual
def Qeq (blk:Nat→Option Blk):V→Option V
 | .any=>some .any
 | .d x=>some (.d x)
 | .rp cs=>some (.rp cs)
 | .osl id off len=>(match slV blk id off len with
  |some d=>some (.d d)
  |none=>none)
 | .ref id row off=>(match blk id with
  |some (.box _ cs)=>(match row,Qma blk (cs.drop off) with
   |0,some ds=>some (.rp ds)
   |_,_=>none)
  |some (.arr _ _ _ rw)=>some (.rp ((rw row).drop off))
  |none=>none)
 | .agg vs=>(match Qbx blk vs with
  |some us=>some (.agg us)
  |none=>none)
 | .tup vs=>(match Qbx blk vs with
  |some us=>some (.tup us)
  |none=>none)
 | .fn f vs=>(match Qbx blk vs with
  |some us=>some (.fn f us)
  |none=>none)
def Qbx (blk:Nat→Option Blk):List V→Option (List V)
 |[]=>some []
 |v::r=>(match Qeq blk v,Qbx blk r with
  |some u,some us=>some (u::us)
  |_,_=>none)
end
theorem QfZ {off i:Nat} {row:Nat→List D}:ZA off row i=row (off+i):=by cases off<;>simp[ZA]
theorem Qpk (h:Sim P B w0 F ρ S a w) {id off len t sz n:Nat} {row:Nat→List D} {x:Value} (hb:Qh S.blks id=some (.arr t sz n row)) (hv:VR w (ZM B S.blks ρ) ρ (.osl id off len) x):
  DR w (fun _=>False) (.sl len (ZA off row)) x:=by
 obtain⟨ad,c,rfl,h2,h3⟩:=hv.osl_inv;rcases h3 with ⟨h3,h4⟩|⟨h3,h4,h5,h6⟩
 ·subst h3;exact .sl0 rfl
 ·cases h.blks id _ hb with
  |arr0 g=>rw[g] at h3;cases h3
  |arr C et g1 g2 g3 g4 g5 g6 g7 g8=>
  subst h5;refine .sl (sz:=sz) (fun i j=>C.getD ((ρ id).o+(off+i)*sz+j) undef) (fun h=>h) (Array.getElem?_eq_some_iff.1 g6).1 (fun i hi=>by rw[QfZ];exact g5 _ (by omega)) (fun i j d hi hd=>?_) (fun i j d hi hd=>?_) (by omega)
  ·rw[QfZ] at hd;have hj:=(List.getElem?_eq_some_iff.1 hd).1;rw[g5 _ (by omega)] at hj;have hle:(off+i+1)*sz≤(ρ id).cap*sz:=Nat.mul_le_mul_right _ (by omega);rw[Nat.add_mul (off+i)] at hle;rw[g2,show(ρ id).o+off*sz+i*sz+j=(ρ id).o+(off+i)*sz+j by rw[Nat.add_mul];omega];exact QbJ g6 (by omega)
  ·rw[QfZ] at hd;exact(g8 (off+i) j d (by omega) hd).free
theorem QgE (h:Sim P B w0 F ρ S a w):∀ {cs:List V} {ds:List D},Ql9 (Qh S.blks) cs=some ds→ds.length=cs.length∧∀(j:Nat) (d:D) (v:V) (x:Value),ds[j]? =some d→cs[j]? =some v→VR w (ZM B S.blks ρ) ρ v x→DR w (fun _=>False) d x
 |[],ds,hd=>by simp[Ql9] at hd;subst hd;exact⟨rfl,fun j d v x h=>by simp at h⟩
 |u::r,ds,hd=>by
  cases u<;>simp only[Ql9] at hd<;>first|cases hd|skip
  ·split at hd
   ·rename_i xs hxs;simp only[Option.some.injEq] at hd;subst hd;obtain⟨i1,i2⟩:=QgE h hxs;refine⟨by simp[i1],fun j d v x hj hv hx=>?_⟩
    cases j with
    |zero=>simp at hj hv;subst hj hv;cases hx with|d hx=>exact hx.free
    |succ j=>exact i2 j d v x (by simpa using hj) (by simpa using hv) hx
   ·cases hd
  ·rename_i id off len;split at hd
   ·rename_i t sz n row xs hb hxs;simp only[Option.some.injEq] at hd;subst hd;obtain⟨i1,i2⟩:=QgE h hxs;refine⟨by simp[i1],fun j d v x hj hv hx=>?_⟩
    cases j with
    |zero=>simp at hj hv;subst hj hv;exact Qpk h hb hx
    |succ j=>exact i2 j d v x (by simpa using hj) (by simpa using hv) hx
   ·cases hd
theorem QjY (h:Sim P B w0 F ρ S a w) {id off len:Nat} {d:D} {x:Value} (hd:slV (Qh S.blks) id off len=some d) (hv:VR w (ZM B S.blks ρ) ρ (.osl id off len) x):DR w (fun _=>False) d x:=by
 unfold slV at hd;split at hd
 ·rename_i hb;simp only[Option.some.injEq] at hd;subst hd;exact Qpk h hb hv
 ·rename_i t cs hb;split at hd
  ·rename_i n ds hn hds;simp only[Option.some.injEq] at hd;subst hd;obtain⟨i1,i2⟩:=QgE h hds;obtain⟨ad,c,rfl,h2,h3⟩:=hv.osl_inv;rcases h3 with ⟨h3,h4⟩|⟨h3,h4,h5,h6⟩
   ·subst h3;exact .sl0 rfl
   ·cases h.blks id _ hb with
    |box C g1 g2 g3 g4 g5 g6 g7 g8=>
    subst h5;obtain⟨q1,q2,_⟩:=g4;have hn1:(ρ id).n=n+1:=by rw[q1,hn];omega
    have hsz:cs.length/(n+1)=(ρ id).sz:=by rw[g3,hn1];exact Nat.mul_div_cancel_left _ (Nat.succ_pos n)
    rw[hsz];have hmul:∀i,i<len→i*(ρ id).sz+(ρ id).sz≤cs.length:=fun i hi=>by
     have:(i+1)*(ρ id).sz≤(ρ id).n*(ρ id).sz:=Nat.mul_le_mul_right _ (by omega);rw[Nat.add_mul,Nat.one_mul] at this;omega
    have hget:∀i j d,i<len→(Qm5 (ρ id).sz ds i)[j]? =some d→j<(ρ id).sz∧ds[i*(ρ id).sz+j]? =some d:=fun i j d hi hd=>by
     unfold Qm5 at hd;rw[List.getElem?_take] at hd;split at hd
     ·rw[List.getElem?_drop] at hd;exact⟨by assumption,hd⟩
     ·cases hd
    refine .sl (sz:=(ρ id).sz) (fun i j=>C.getD ((ρ id).o+(i*(ρ id).sz+j)) undef) (fun h=>h) (Array.getElem?_eq_some_iff.1 g5).1 (fun i hi=>?_) (fun i j d hi hd=>?_) (fun i j d hi hd=>?_) (by omega)
    ·have:=hmul i hi;unfold Qm5;rw[List.length_take,List.length_drop];omega
    ·obtain⟨hj,_⟩:=hget i j d hi hd;have:=hmul i hi;have g6:=g6.1;rw[show(ρ id).o+0*(ρ id).sz+i*(ρ id).sz+j=(ρ id).o+(i*(ρ id).sz+j) by omega];exact QbJ g5 (by omega)
    ·obtain⟨hj,he⟩:=hget i j d hi hd;have:=hmul i hi;have hlt:i*(ρ id).sz+j<cs.length:=by omega
     exact i2 _ d _ _ he (List.getElem?_eq_getElem hlt) (g8 _ _ (List.getElem?_eq_getElem hlt))
  ·cases hd
 ·cases hd
theorem QgF (h:Sim P B w0 F ρ S a w):∀ {cs:List V} {ds:List D},Qma (Qh S.blks) cs=some ds→ds.length=cs.length∧∀(j:Nat) (d:D) (v:V) (x:Value),ds[j]? =some d→cs[j]? =some v→VR w (ZM B S.blks ρ) ρ v x→DR w (fun _=>False) d x
 |[],ds,hd=>by simp[Qma] at hd;subst hd;exact⟨rfl,fun j d v x h=>by simp at h⟩
 |u::r,ds,hd=>by
  cases u<;>simp only[Qma] at hd<;>first|cases hd|skip
  ·split at hd
   ·rename_i xs hxs;simp only[Option.some.injEq] at hd;subst hd;obtain⟨i1,i2⟩:=QgF h hxs;refine⟨by simp[i1],fun j d v x hj hv hx=>?_⟩
    cases j with
    |zero=>simp at hj hv;subst hj hv;cases hx with|d hx=>exact hx.free
    |succ j=>exact i2 j d v x (by simpa using hj) (by simpa using hv) hx
   ·cases hd
  ·rename_i id off len;split at hd
   ·rename_i d0 xs hb hxs;simp only[Option.some.injEq] at hd;subst hd;obtain⟨i1,i2⟩:=QgF h hxs;refine⟨by simp[i1],fun j d v x hj hv hx=>?_⟩
    cases j with
    |zero=>simp at hj hv;subst hj hv;exact QjY h hb hx
    |succ j=>exact i2 j d v x (by simpa using hj) (by simpa using hv) hx
   ·cases hd
theorem Qfz {blk:Nat→Option Blk}:∀ {vs us:List V},Qbx blk vs=some us→us.length=vs.length∧∀(j:Nat) (u:V),us[j]? =some u→∃v,vs[j]? =some v∧Qeq blk v=some u
 |[],us,h=>by simp[Qbx] at h;subst h;exact⟨rfl,fun j u h=>by simp at h⟩
 |v::r,us,h=>by
  simp only[Qbx] at h;split at h
  ·rename_i u us' hu hus;simp only[Option.some.injEq] at h;subst h;obtain⟨i1,i2⟩:=Qfz hus;refine⟨by simp[i1],fun j x hj=>?_⟩
   cases j with
   |zero=>simp at hj;subst hj;exact⟨v,rfl,hu⟩
   |succ j=>simpa using i2 j x (by simpa using hj)
  ·cases h
theorem Qon (h:Sim P B w0 F ρ S a w) {v:V} {x:Value} (hv:VR w (ZM B S.blks ρ) ρ v x):∀(u:V) (ρ0:Env),Qeq (Qh S.blks) v=some u→VR w (fun _=>False) ρ0 u x:=by
 induction hv with
 |any=>intro u ρ0 hu;simp only[Qeq,Option.some.injEq] at hu;subst hu;exact .any
 |d hd=>intro u ρ0 hu;simp only[Qeq,Option.some.injEq] at hu;subst hu;exact .d hd.free
 |rp vals h1 h2 h3 h4=>intro u ρ0 hu;simp only[Qeq,Option.some.injEq] at hu;subst hu;exact .rp vals (fun h=>h) h2 h3 fun j d hj=>(h4 j d hj).free
 |osl0 h0 h1=>
  intro u ρ0 hu;simp only[Qeq] at hu;split at hu
  ·rename_i hb;simp only[Option.some.injEq] at hu;subst hu;exact .d (QjY h hb (.osl0 h0 h1))
  ·cases hu
 |osl h1 h2 h3=>
  intro u ρ0 hu;simp only[Qeq] at hu;split at hu
  ·rename_i hb;simp only[Option.some.injEq] at hu;subst hu;exact .d (QjY h hb (.osl h1 h2 h3))
  ·cases hu
 |ref h1 h2=>
  rename_i id row off;intro u ρ0 hu;simp only[Qeq] at hu;split at hu
  ·rename_i t cs hb;split at hu
   ·rename_i ds hds;simp only[Option.some.injEq] at hu;subst hu;obtain⟨i1,i2⟩:=QgF h hds
    cases h.blks id _ hb with
    |box C g1 g2 g3 g4 g5 g6 g7 g8=>
    have e:(ρ id).o+0*(ρ id).sz+off=(ρ id).o+off:=by omega
    rw[e];have g6a:=g6.1;have key:∀(j:Nat) (d:D),ds[j]? =some d→∃v,(cs.drop off)[j]? =some v∧(ρ id).o+off+j<C.size:=fun j d hj=>by
     have hlt:=(List.getElem?_eq_some_iff.1 hj).1;rw[i1] at hlt;refine⟨_,List.getElem?_eq_getElem hlt,?_⟩;simp at hlt;omega
    refine .rp (fun j=>C.getD ((ρ id).o+off+j) undef) (fun h=>h) (Array.getElem?_eq_some_iff.1 g5).1 (fun j d hj=>?_) fun j d hj=>?_
    ·obtain⟨_,_,h4⟩:=key j d hj;exact QbJ g5 h4
    ·obtain⟨v,h3,h4⟩:=key j d hj;refine i2 j d v _ hj h3 ?_;rw[List.getElem?_drop] at h3;rw[Nat.add_assoc];exact g8 _ _ h3
   ·cases hu
  ·rename_i t sz n rw' hb;simp only[Option.some.injEq] at hu;subst hu
   cases h.blks id _ hb with
   |arr0 g=>rw[g] at h1;cases h1
   |arr C et g1 g2 g3 g4 g5 g6 g7 g8=>
   have hlen:=g5 row (by omega);have hle:(row+1)*sz≤(ρ id).cap*sz:=Nat.mul_le_mul_right _ (by omega);rw[Nat.add_mul] at hle;refine .rp (fun j=>C.getD ((ρ id).o+row*sz+(off+j)) undef) (fun h=>h) (Array.getElem?_eq_some_iff.1 g6).1 (fun j d hj=>?_) fun j d hj=>?_
   ·rw[List.getElem?_drop] at hj;have hj':=(List.getElem?_eq_some_iff.1 hj).1;rw[g2,Nat.add_assoc ((ρ id).o+row*sz)];exact QbJ g6 (by omega)
   ·rw[List.getElem?_drop] at hj;exact(g8 row _ d (by omega) hj).free
  ·cases hu
 |agg hs h1 hvs ih=>
  intro u ρ0 hu;simp only[Qeq] at hu;split at hu
  ·rename_i us hus;simp only[Option.some.injEq] at hu;subst hu;obtain⟨i1,i2⟩:=Qfz hus;refine .agg (by rw[i1];exact hs) h1 fun j u hj=>?_;obtain⟨v,hv1,hv2⟩:=i2 j u hj;exact ih j v hv1 u ρ0 hv2
  ·cases hu
 |tup hs hvs ih=>
  intro u ρ0 hu;simp only[Qeq] at hu;split at hu
  ·rename_i us hus;simp only[Option.some.injEq] at hu;subst hu;obtain⟨i1,i2⟩:=Qfz hus;refine .tup (by rw[i1];exact hs) fun j u hj=>?_;obtain⟨v,hv1,hv2⟩:=i2 j u hj;exact ih j v hv1 u ρ0 hv2
  ·cases hu
 |fn hs hvs ih=>
  intro u ρ0 hu;simp only[Qeq] at hu;split at hu
  ·rename_i us hus;simp only[Option.some.injEq] at hu;subst hu;obtain⟨i1,i2⟩:=Qfz hus;refine .fn (by rw[i1];exact hs) fun j u hj=>?_;obtain⟨v,hv1,hv2⟩:=i2 j u hj;exact ih j v hv1 u ρ0 hv2
  ·cases hu
theorem Qli (h:Sim P B w0 F ρ S a w) {vs us:List V} {vals:Array Value} (hv:QgA w (ZM B S.blks ρ) ρ vs vals) (hu:Qbx (Qh S.blks) vs=some us) (ρ0:Env):QgA w (fun _=>False) ρ0 us vals:=by
 obtain⟨i1,i2⟩:=Qfz hu;refine⟨by rw[i1];exact hv.1,fun j u hj=>?_⟩;obtain⟨v,hv1,hv2⟩:=i2 j u hj;exact Qon h (hv.2 j v hv1) u ρ0 hv2
def Qcg (k:Nat) (ρ1 ρ:Env):List Nb→Env
 |[]=>ρ
 |b::r=>(Qcg k ρ1 ρ r).set (b.id+k) (ρ1 b.id)
theorem QiB {k:Nat} {ρ1 ρ:Env}:∀ {nb:List Nb},nb.Pairwise (fun x y=>x.id≠y.id)→∀b∈nb,Qcg k ρ1 ρ nb (b.id+k)=ρ1 b.id
 |x::r,hd,b,hb=>by
  rw[List.pairwise_cons] at hd;simp only[Qcg];rcases List.mem_cons.1 hb with hb|hb
  ·subst hb;exact Env.set_same
  ·have:=hd.1 b hb;rw[Env.set_other (by omega)];exact QiB hd.2 b hb
 |[],_,_,hb=>by simp at hb
theorem Qpl {w':World} {ρ1:Env} {k m:Nat} (h:SimO P ow B w0 F ρ S a w') (hS:∀b,own S.blks ρ b→b<m) (hB:∀b,B b→b<m) (hC:∀b k,B.cel b k→b<m) (how:∀b,m≤b→ow b):∀(nb:List Nb),nb.Pairwise (fun x y=>x.id≠y.id)→
  (∀b∈nb,S.mentions (b.id+k)=false)→(∀b∈nb,∀i,i<b.n→∀d∈b.row i,QhW d=true)→
  (∀b∈nb,∃ow1,BR w' ow1 ρ1 b.id (.arr b.t b.sz b.n b.row))→(∀x∈nb,∀y∈nb,(ρ1 x.id).ph=false→(ρ1 y.id).ph=false→(ρ1 x.id).b=(ρ1 y.id).b→x.id=y.id)→
  (∀x∈nb,(ρ1 x.id).ph=false→m≤(ρ1 x.id).b)→
  SimO P ow B w0 F (Qcg k ρ1 ρ nb) ⟨S.base,S.nt,S.tmps,S.gds,nb.map (Nb.ent k)++S.blks,S.frames⟩ a w'∧
   (∀id,(∀b∈nb,b.id+k≠id)→S.mentions id=false→St.mentions ⟨S.base,S.nt,S.tmps,S.gds,nb.map (Nb.ent k)++S.blks,S.frames⟩ id=false)∧
   ∀b,own (nb.map (Nb.ent k)++S.blks) (Qcg k ρ1 ρ nb) b→b<m∨ ∃x∈nb,(ρ1 x.id).ph=false∧(ρ1 x.id).b=b
 |[],_,_,_,_,_,_=>⟨h,fun id _ hm=>hm,fun b hb=>.inl (hS b hb)⟩
 |x::r,hd,hm,hf,hbr,hsep,hge=>by
  have hd':=List.pairwise_cons.1 hd;obtain⟨i1,i2,i3⟩:=Qpl h hS hB hC how r hd'.2 (fun b hb=>hm b (by simp[hb])) (fun b hb=>hf b (by simp[hb])) (fun b hb=>hbr b (by simp[hb])) (fun a ha b hb=>hsep a (by simp[ha]) b (by simp[hb])) (fun a ha=>hge a (by simp[ha]));have hmx:St.mentions ⟨S.base,S.nt,S.tmps,S.gds,r.map (Nb.ent k)++S.blks,S.frames⟩ (x.id+k)=false:=i2 _ (fun b hb e=>hd'.1 b hb (by omega)) (hm x (by simp));obtain⟨ow1,hbx⟩:=hbr x (by simp);refine⟨?_,fun id hid hmid=>?_,fun b hb=>?_⟩
  ·refine QrB i1 hmx (fun hp=>⟨how _ (hge x (by simp) hp),fun ho=>?_,⟨fun hb'=>by have:=hB _ hb';have:=hge x (by simp) hp;omega,fun k hc=>by have:=hC _ _ hc;have:=hge x (by simp) hp;omega⟩⟩) (hbx.shiftFlat (hf x (by simp)) Env.set_same rfl);rcases i3 _ ho with h1|⟨y,hy,hyp,hyb⟩
   ·have:=hge x (by simp) hp;omega
   ·exact hd'.1 y hy (hsep x (by simp) y (by simp[hy]) hp hyp hyb.symm)
  ·have h0:=i2 id (fun b hb=>hid b (by simp[hb])) hmid;have hne:Nat.beq (x.id+k) id=false:=by
    cases hb:Nat.beq (x.id+k) id
    ·rfl
    ·exact absurd (Nat.eq_of_beq_eq_true hb) (hid x (by simp))
   obtain⟨p1,p2,p3,p4⟩:=St.mentions_parts h0;dsimp only at p1 p2 p3 p4;simp only[St.mentions,p1,p2,p4,List.map_cons,List.cons_append,Nb.ent,QY,hne,Blk.mentions];have p3':QY id (r.map (Nb.ent k)++S.blks)=false:=p3;simp[p3']
  ·obtain⟨i,q,hq,hp,rfl⟩:=hb;simp only[List.map_cons,List.cons_append,Qcg] at hq hp⊢;rcases QT hq with ⟨rfl,_⟩|⟨hn,hq⟩
   ·rw[Env.set_same] at hp⊢;exact .inr ⟨x,by simp,hp,rfl⟩
   ·rw[Env.set_other (Ne.symm hn)] at hp⊢;rcases i3 _ ⟨i,q,hq,hp,rfl⟩ with h1|⟨y,hy,h2⟩
    ·exact .inl h1
    ·exact .inr ⟨y,by simp[hy],h2⟩
theorem Qpm {f:FuncId} {args args':List V} {res:V} {nb:List Nb} {K:V→St→Prop} (k:Nat) (h:PureC P f args' res nb) (hv:Qbx (Qh S.blks) args=some args')
  (hm:∀b∈nb,S.mentions (b.id+k)=false) (hk:K (res.shift k) ⟨S.base,S.nt,S.tmps,S.gds,nb.map (Nb.ent k)++S.blks,S.frames⟩):CallP P f args S K:=by
 refine⟨h.can,fun B w0 F ρ a w vals hs ha=>Calls.mono (h.out w vals ρ (Qli hs ha hv ρ) (hs.tabs hs.hB)) ?_⟩;rintro e w' ⟨v,ρ1,rfl,h1,h2,h3,h4,h5⟩;have hS:∀b,own S.blks ρ b→b<w.heap.size:=fun b hb=>Qdb hs (.inl hb);have keep:Keep w (ZM B S.blks ρ) w' (fun b=>ZM B S.blks ρ b∨w.heap.size≤b):=⟨h1.size,fun b hb ho=>⟨h1.old b hb,fun ho'=>by
  rcases ho' with ho'|ho'
  ·exact ho ho'
  ·omega⟩⟩
 have hp:=hs.pure h1;have so:SimO P (fun b=>ZM B S.blks ρ b∨w.heap.size≤b) B w0 F ρ S a w':=
  ⟨hp.below,hp.tab,hp.hB,hp.defers,hp.nt,hs.top.keep keep fun _ _=>rfl,fun id b hb=>(hs.blks id b hb).keep keep rfl (fun hp=>h1.old _ ((hs.blks id b hb).lt hp)) fun _ _=>rfl,hs.sep,hs.ge,hs.frames.1,
   fun i f tm hf ht=>(hs.frames.2 i f tm hf ht).keep keep fun _ _=>rfl⟩
 obtain⟨i1,_,i3⟩:=Qpl (ρ1:=ρ1) (k:=k) so hS hs.hB (fun b k hc=>Nat.lt_of_lt_of_le (hs.below.clt b k hc) hs.below.size) (fun b hb=>.inr hb) nb h.dist hm h.rows (fun b hb=>⟨_,h3 b hb⟩) h4 h5;refine⟨v,_,_,_,rfl,i1.shrink fun b hb=>?_,h2.shiftFlat h.flat fun id hid=>?_,hk⟩
 ·rcases hb with hb|hb
  case inr=>exact .inl (.inr hb)
  rcases i3 b hb with h6|⟨x,hx,hxp,rfl⟩
  ·obtain⟨i,q,hq,hpq,rfl⟩:=hb;rcases Nat.lt_or_ge ((Qcg k ρ1 ρ nb i).b) w.heap.size with h7|h7
   ·have key:∀(l:List Nb),(∀x∈l,(ρ1 x.id).ph=false→w.heap.size≤(ρ1 x.id).b)→∀q,Qh (l.map (Nb.ent k)++S.blks) i=some q→(Qcg k ρ1 ρ l i).ph=false→(Qcg k ρ1 ρ l i).b<w.heap.size→own S.blks ρ (Qcg k ρ1 ρ l i).b:=by
     intro l
     induction l with
     |nil=>intro _ q hq hp _;exact⟨i,q,hq,hp,rfl⟩
     |cons x r ih=>
      intro hge q hq hp hlt;simp only[List.map_cons,List.cons_append,Qcg] at hq hp hlt⊢;rcases QT hq with ⟨rfl,_⟩|⟨hn,hq⟩
      ·rw[Env.set_same] at hp hlt;have:=hge x (by simp) hp;omega
      ·rw[Env.set_other (Ne.symm hn)] at hp hlt⊢;exact ih (fun y hy=>hge y (by simp[hy])) q hq hp hlt
    exact .inl (.inl (key nb h5 q hq hpq h7))
   ·exact .inr h7
  ·exact .inr (h5 x hx hxp)
 ·obtain⟨b,hb,rfl⟩:=h.ids id hid;exact QiB h.dist b hb
theorem Qnb {sc scN:Prop→Prop} {f:FuncId} {args args':List V} {res:V} {K:V→St→Prop} (hc:Callable P f) (hsc:sc (PureC P f args' res [])) (hmono:∀p q:Prop,(p→q)→sc p→sc q) (hN:∀p:Prop,p→scN p) (hf:QbR res=true) (hm:∀id,res.mentions id=false)
  (hv:Qbx (Qh S.blks) args=some args') (hk:K res S):CallG P sc scN f args S K:=by
 refine⟨hc,res,S,hk,hmono _ _ (fun h B w0 F ρ a w vals hs ha=>?_) hsc,hN _ fun _ _ _ ρ _ _ h=>⟨ρ,h⟩⟩;refine Calls.mono (h.out w vals ρ (Qli hs ha hv ρ) (hs.tabs hs.hB)) ?_;rintro e w' ⟨v,ρ1,rfl,h1,h2,_⟩;refine⟨v,ρ,rfl,hs.pure h1,?_⟩;have key:∀ {v:V} {x:Value} {ow1 ow2:Nat→Prop} {ρ1 ρ2:Env},VR w' ow1 ρ1 v x→QbR v=true→(∀id,v.mentions id=false)→VR w' ow2 ρ2 v x:=by
  intro v x ow1 ow2 ρ1 ρ2 h
  induction h with
  |any=>intro _ _;exact .any
  |d h=>intro hf _;exact .d (h.atom hf _ _)
  |ref=>intro hf _;simp[QbR] at hf
  |osl0=>rename_i id _ _ _ _ _;intro _ hm;have:=hm id;simp[V.mentions] at this
  |osl=>rename_i id _ _ _ _ _;intro _ hm;have:=hm id;simp[V.mentions] at this
  |rp=>intro hf _;simp[QbR] at hf
  |agg hs h1 hv ih=>
   intro hf hm;refine .agg hs h1 fun j v hj=>ih j v hj (QdO (by simpa[QbR] using hf) hj) fun id=>?_
   cases hmi:v.mentions id
   ·rfl
   ·have:=hm id;simp only[V.mentions] at this;rw[Q9 hj hmi] at this;cases this
  |tup hs hv ih=>
   intro hf hm;refine .tup hs fun j v hj=>ih j v hj (QdO (by simpa[QbR] using hf) hj) fun id=>?_
   cases hmi:v.mentions id
   ·rfl
   ·have:=hm id;simp only[V.mentions] at this;rw[Q9 hj hmi] at this;cases this
  |fn=>intro hf _;simp[QbR] at hf
 exact key h2 hf hm
end Go.Ab
namespace Go.Ab
open Go.RowKit
variable {P:Program} {tb:Tb} {w:World} {ow:Nat→Prop} {ρ:Env} {a:Act} {B:Bd} {w0:World} {F:List (Array Value)} {S:St}
def Quz (w:World):Bd:=⟨fun b=>b<w.heap.size,fun _=>False,fun _ h=>h.elim,fun _ _=>False⟩
def QuA (bs:List (Nat×Blk)):List Nb→Prop
 |[]=>True
 |b::r=>(match Qh bs b.id with
  |some (.arr _ sz n row)=>sz=b.sz∧n=b.n∧∀i,i<b.n→row i=b.row i
  | _ => Stuck "no such row") ∧ QuA bs r
theorem VR.flat {v x} {w':World} {ow':Nat→Prop} (h:VR w ow ρ v x) (hf:QbR v=true):VR w' ow' ρ v x:=by
 induction h with
 |any=>exact .any
 |d h=>exact .d (h.atom hf _ _)
 |ref h1 h2=>simp[QbR] at hf
 |osl0 h0 h1=>exact .osl0 h0 h1
 |osl h1 h2 h3=>exact .osl h1 h2 h3
 |rp=>simp[QbR] at hf
 |agg hs h1 hv ih=>exact .agg hs h1 fun j v hj=>ih j v hj (QdO (by simpa[QbR] using hf) hj)
 |tup hs hv ih=>exact .tup hs fun j v hj=>ih j v hj (QdO (by simpa[QbR] using hf) hj)
 |fn hs hv ih=>simp[QbR] at hf
theorem Qpn {bs:List (Nat×Blk)}:∀ {nb:List Nb},QuA bs nb→∀b∈nb,∃t n row,Qh bs b.id=some (.arr t b.sz n row)∧n=b.n∧∀i,i<b.n→row i=b.row i
 |x::r,h,b,hb=>by
  simp only[QuA] at h;obtain⟨h1,h2⟩:=h;rcases List.mem_cons.1 hb with hb|hb
  ·subst hb;split at h1
   ·rename_i t sz n row hl;obtain⟨rfl,h3,h4⟩:=h1;exact⟨t,n,row,hl,h3,h4⟩
   ·exact h1.no.elim
  ·exact Qpn h2 b hb
 |[],_,_,hb=>by simp at hb
structure LE (S S':St):Prop where
 out:∀ {P:Program} B w0 F ρ a w,Sim P B w0 F ρ S a w→∃ρ',Sim P B w0 F ρ' S' a w
theorem LE.refl (S:St):LE S S:=⟨fun _ _ _ ρ _ _ h=>⟨ρ,h⟩⟩
theorem LE.trans {S S' S'':St} (h:LE S S') (k:LE S' S''):LE S S'':=⟨fun B w0 F ρ a w hs=>by
 obtain⟨ρ',h1⟩:=h.out B w0 F ρ a w hs;exact k.out B w0 F ρ' a w h1⟩
structure VLe (v v':V):Prop where
 out:∀w ow ρ x,VR w ow ρ v x→VR w ow ρ v' x
theorem VLe.refl (v:V):VLe v v:=⟨fun _ _ _ _ h=>h⟩
theorem VLe.of {v v':V} (h:v=v'):VLe v v':=h▸ .refl v
theorem VLe.rows {n n':Nat} {row row':Nat→List D} (hn:n=n') (h:∀i,i<n→row i=row' i):VLe (.d (.sl n row)) (.d (.sl n' row')):=⟨fun w ow ρ x hx=>by
 subst hn
 cases hx with|d hx=>
 cases hx with
 |sl0 h=>exact .d (.sl0 h)
 |sl vals h1 h2 h3 h4 h5 h6=>exact .d (.sl vals h1 h2 (fun i hi=>by rw[←h i hi];exact h3 i hi) (fun i j d hi hd=>h4 i j d hi (by rw[h i hi];exact hd)) (fun i j d hi hd=>h5 i j d hi (by rw[h i hi];exact hd)) h6)⟩
theorem VLe.nil_sl {n:Nat} {row:Nat→List D} (hn:n=0):VLe (.d .nil) (.d (.sl n row)):=⟨fun w ow ρ x hx=>by
 cases hx with|d hx=>cases hx;exact .d (.sl0 hn)⟩
theorem VLe.nil_osl {id n:Nat} (hn:n=0):VLe (.d .nil) (.osl id 0 n):=⟨fun w ow ρ x hx=>by
 cases hx with|d hx=>cases hx;exact .osl0 hn (Nat.zero_le _)⟩
theorem VLe.fnD {f:FuncId} {vs:List V} {caps:List (List D)} (h:Qqd vs=some caps):VLe (.fn f vs) (.d (.fn f caps)):=⟨fun w ow ρ x hx=>by
 rw[Ql6 h] at hx;exact .d hx.fnDat⟩
structure BLe (b b':Blk):Prop where
 out:∀w ow ρ id,BR w ow ρ id b→BR w ow ρ id b'
 bx:b'.bx=b.bx
theorem BLe.refl (b:Blk):BLe b b:=⟨fun _ _ _ _ h=>h,rfl⟩
theorem BLe.rows {t t':TypeId} {sz sz' n n':Nat} {row row':Nat→List D} (hs:sz=sz') (hn:n=n') (h:∀i,i<n→row i=row' i):BLe (.arr t sz n row) (.arr t' sz' n' row'):=⟨fun w ow ρ id hb=>by
 subst hs hn
 cases hb with
 |arr0 k1 k2 k3 k4=>exact .arr0 k1 k2 k3 k4
 |arr C et k1 k2 k3 k4 k5 k6 k7 k8=>exact .arr C et k1 k2 k3 k4 (fun i hi=>by rw[←h i hi];exact k5 i hi) k6 k7 fun i j d hi hd=>k8 i j d hi (by rw[h i hi];exact hd),rfl⟩
def CellsLe:List V→List V→Prop
 |[],[]=>True
 |v::r,v'::r'=>VLe v v'∧CellsLe r r'
 | _, _ => Stuck "cells"
theorem CellsLe.get:∀ {cs cs':List V},CellsLe cs cs'→cs.length=cs'.length∧∀(j:Nat) (v':V),cs'[j]? =some v'→∃v,cs[j]? =some v∧VLe v v'
 |[],[],_=>⟨rfl,fun j v h=>by simp at h⟩
 |v::r,v'::r',h=>by
  simp only[CellsLe] at h;obtain⟨h1,h2⟩:=h.2.get;refine⟨by simp[h1],fun j u hj=>?_⟩
  cases j with
  |zero=>simp at hj;subst hj;exact⟨v,rfl,h.1⟩
  |succ j=>simpa using h2 j u (by simpa using hj)
 |[],_::_,h=>h.no.elim
 |_::_,[],h=>h.no.elim
theorem BLe.box {t t':TypeId} {cs cs':List V} (h:CellsLe cs cs') (ht:bcl t'=bcl t:=by kernel_rfl):BLe (.box t cs) (.box t' cs'):=⟨fun w ow ρ id hb=>by
 obtain⟨h1,h2⟩:=h.get
 cases hb with
 |box C k1 k2 k3 k4 k5 k6 k7 k8=>
  refine .box C k1 k2 (by rw[←h1];exact k3) (by rw[ht];exact k4) k5 (by rw[←h1];exact k6) (by rw[←h1];exact k7) fun j v hj=>?_;obtain⟨u,hu,hle⟩:=h2 j v hj;exact hle.out _ _ _ _ (k8 j u hu),rfl⟩
theorem VLe.aggL {vs vs':List V} (h:CellsLe vs vs'):VLe (.agg vs) (.agg vs'):=⟨fun w ow ρ x hx=>by
 obtain⟨h1,h2⟩:=h.get
 cases hx with
 |agg hs ho hv=>
  refine .agg (by rw[hs,h1]) ho fun j v hj=>?_;obtain⟨u,hu,hle⟩:=h2 j v hj;exact hle.out _ _ _ _ (hv j u hu)⟩
def LeT (old:List (Nat×V)):List (Nat×V)→Prop
 |[]=>True
 |(t,v)::r=>(match Qh old t with
  |some u=>VLe u v
  |none=>VLe .any v)∧LeT old r
def LeB (old:List (Nat×Blk)):List (Nat×Blk)→Prop
 |[]=>True
 |(i,b)::r=>(match Qh old i with
  |some c=>BLe c b
  | none => Stuck "weakening no such block") ∧ LeB old r
def LeF:List Fr→List Fr→Prop
 |[],[]=>True
 |f::r,f'::r'=>(f'.gds=[]∧LeT f.tmps f'.tmps)∧LeF r r'
 | _, _ => Stuck "weakening frames"
theorem QrC {old:List (Nat×V)}:∀ {new:List (Nat×V)} {t:Nat} {v:V},LeT old new→Qh new t=some v→∃u,(Qh old t=some u∨(Qh old t=none∧u=.any))∧VLe u v
 |(s,x)::r,t,v,h,hl=>by
  simp only[LeT] at h;rcases QT hl with ⟨rfl,rfl⟩|⟨hn,hl⟩
  ·have h1:=h.1;split at h1
   ·rename_i u hu;exact⟨u,.inl hu,h1⟩
   ·rename_i hu;exact⟨.any,.inr ⟨hu,rfl⟩,h1⟩
  ·exact QrC h.2 hl
 |[],_,_,_,hl=>by simp[Qh] at hl
theorem QfA {old:List (Nat×Blk)}:∀ {new:List (Nat×Blk)} {i:Nat} {b:Blk},LeB old new→Qh new i=some b→∃c,Qh old i=some c∧BLe c b
 |(s,x)::r,i,b,h,hl=>by
  simp only[LeB] at h;rcases QT hl with ⟨rfl,rfl⟩|⟨hn,hl⟩
  ·have h1:=h.1;split at h1
   ·rename_i c hc;exact⟨c,hc,h1⟩
   ·exact h1.no.elim
  ·exact QfA h.2 hl
 |[],_,_,_,hl=>by simp[Qh] at hl
theorem QrD:∀ {old new:List Fr},LeF old new→old.length=new.length∧∀(i:Nat) (f':Fr),new[i]? =some f'→∃f,old[i]? =some f∧f'.gds=[]∧LeT f.tmps f'.tmps
 |[],[],_=>⟨rfl,fun i f h=>by simp at h⟩
 |f::r,f'::r',h=>by
  simp only[LeF] at h;obtain⟨h1,h2⟩:=QrD h.2;refine⟨by simp[h1],fun i g hg=>?_⟩
  cases i with
  |zero=>simp at hg;subst hg;exact⟨f,rfl,h.1.1,h.1.2⟩
  |succ i=>simpa using h2 i g (by simpa using hg)
 |[],_::_,h=>h.no.elim
 |_::_,[],h=>h.no.elim
theorem FrR.le {f:Fr} {ts':List (Nat×V)} {tm:Array Value} (h:FrR w ow ρ f tm) (hl:LeT f.tmps ts'):FrR w ow ρ ⟨ts',[]⟩ tm:=by
 refine⟨fun t v hv=>?_,fun g hg=>by simp at hg⟩;obtain⟨u,hu,hle⟩:=QrC hl hv;refine hle.out _ _ _ _ ?_;rcases hu with hu|⟨_,rfl⟩
 ·exact h.tmps t u hu
 ·exact .any
theorem Qxu {base nt base':Nat} {ts ts':List (Nat×V)} {gs:List Gd} {bs bs':List (Nat×Blk)} {fs fs':List Fr} (ht:LeT ts ts') (hb:LeB bs bs') (hf:LeF fs fs'):
  LE ⟨base,nt,ts,gs,bs,fs⟩ ⟨base',nt,ts',[],bs',fs'⟩:=by
 refine⟨fun B w0 F ρ a w h=>⟨ρ,?_⟩⟩;have hown:∀b,own bs' ρ b→own bs ρ b:=by
  rintro b ⟨i,k,hk,hp,rfl⟩;obtain⟨c,hc,_⟩:=QfA hb hk;exact⟨i,c,hc,hp,rfl⟩
 have keep:Keep w (ZM B bs ρ) w (ZM B bs' ρ):=⟨Nat.le_refl _,fun b _ ho=>⟨rfl,fun h=>ho (h.imp (hown b) fun h=>h)⟩⟩;obtain⟨f1,f2⟩:=QrD hf;refine⟨h.below,h.tab,h.hB,h.defers,h.nt,(h.top.le ht).keep keep fun _ _=>rfl,fun id b hbk=>?_,fun i j x y hx hy=>?_,fun i x hx=>?_,by rw[←h.frames.1];exact f1.symm,fun i f' tm hf' htm=>?_⟩
 ·obtain⟨c,hc,hle⟩:=QfA hb hbk;have:=hle.out _ _ _ _ (h.blks id c hc);exact this.keep keep rfl (fun _=>rfl) fun _ _=>rfl
 ·obtain⟨x',hx',_⟩:=QfA hb hx;obtain⟨y',hy',_⟩:=QfA hb hy;exact h.sep i j x' y' hx' hy'
 ·obtain⟨x',hx',hle⟩:=QfA hb hx;rw[hle.bx];exact h.ge i x' hx'
 ·obtain⟨f,hf1,hg,hlt⟩:=f2 i f' hf';obtain⟨ts2,gs2⟩:=f';dsimp only at hg;subst hg;exact((h.frames.2 i f tm hf1 htm).le hlt).keep keep fun _ _=>rfl
theorem Qqs (S:St) (id:Nat) (t:TypeId) (sz:Nat) (row:Nat→List D) (hm:S.mentions id=false):LE S ⟨S.base,S.nt,S.tmps,S.gds,(id,.arr t sz 0 row)::S.blks,S.frames⟩:=
 ⟨fun _ _ _ _ _ _ h=>⟨_,(Qc4 h.o hm (fun _ h=>h) none).1⟩⟩
theorem Qtl {c:Code} {S S':St} {Q:Exit→St→Prop} (h:LE S S') (k:WP P c S' Q):WP P c S Q:=fun B w0 F ρ a w hs=>by
 obtain⟨ρ',h1⟩:=h.out B w0 F ρ a w hs;exact k B w0 F ρ' a w h1
theorem Qb (hT:TOk P tb) {x y:Code} {Q:Exit→St→Prop} (h:wpc P tb x S fun e S=>match e with
   | .normal=>wpc P tb y S Q
   |e=>Q e S):SeqP P x y S Q:=by
 refine⟨fun B w0 F ρ a w hs=>wp_seq (wp_mono (JJ hT x S _ h B w0 F ρ a w hs) ?_)⟩;rintro e a' w' ⟨ρ',S',h1,h2⟩
 cases e with
 |normal=>exact JJ hT y S' Q h2 B w0 F ρ' a' w' h1
 |_=>exact⟨ρ',S',h1,h2⟩
theorem J6 (hT:TOk P tb) {ι:Type} {x y:Code} {Q:Exit→St→Prop} (shape:ι→St) (good:ι→Prop) (h:wpc P tb x S fun e S'=>match e with
   | .normal=>∃i,good i∧LE S' (shape i)
   |e=>Q e S') (k:∀i,good i→wpc P tb y (shape i) Q):SeqP P x y S Q:=by
 refine⟨fun B w0 F ρ a w hs=>wp_seq (wp_mono (JJ hT x S _ h B w0 F ρ a w hs) ?_)⟩;rintro e a' w' ⟨ρ',S',h1,h2⟩
 cases e with
 |normal=>
  obtain⟨i,hg,hle⟩:=h2;obtain⟨ρ'',h3⟩:=hle.out B w0 F ρ' a' w' h1;exact JJ hT y (shape i) Q (k i hg) B w0 F ρ'' a' w' h3
 |_=>exact⟨ρ',S',h1,h2⟩
end Go.Ab
