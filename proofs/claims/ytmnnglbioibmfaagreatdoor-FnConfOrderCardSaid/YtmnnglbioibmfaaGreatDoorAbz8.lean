/-
  Library functions by the kit's contracts; rows that tell variables: a part of the frame in which a given row's proof walks the program; no condition.
-/
import Derived.Test.YtmnnglbioibmfaaGreatDoorAbz6
import Derived.Shelf.Strconv.Itoa3
import Derived.Shelf.Strings.OnBuilder
import Derived.Shelf.Strings.Cut
import Derived.Shelf.Strings.Split
import Derived.Lib.AtoiErrMem
import Derived.Lib.AtoiAll
import Derived.Lib.LaidTab
import Derived.ProofKit
import Derived.OpenShut
import Derived.LaidMore
import Derived.Lay
import Derived.SevenTiedAt
import Derived.Stop.Joined
set_option linter.all false
namespace Go.Ab
open Go.RowKit
variable {P:Program}
noncomputable def Ql1 (n:Int):ByteArray:=⟨(Lib.itoa n).toArray⟩
noncomputable def QiP (xs:List ByteArray) (sep:ByteArray):ByteArray:=⟨(Lib.join (xs.map (·.data.toList)) sep.data.toList).toArray⟩
theorem Qut {w:World} (h:w.var? P QdG=some Qwp):Lib.TabIs P w QdG .u64 Lib.pow10Tab:=h.trans (congrArg some (by kernel_rfl))
theorem Qx9 {w:World} {ow:Nat→Prop} {x:ByteArray} {v:Value} (h:DR w ow (.str x) v):v=.string x:=by cases h;rfl
theorem Qp7 {f:FuncId} (can:Callable P f)
  (hc:∀(bk o c:Nat) (xs:List ByteArray) (sep:ByteArray) (w:World),(∀(j:Nat) x,xs[j]? =some x→w.cell? ⟨bk,o+j,none⟩=some (.string x))→bk<w.heap.size→xs.length≤140737488355328→xs.length≤c→
   (Lib.join (xs.map (·.data.toList)) sep.data.toList).length≤140737488355328→
   Calls P f #[.slice (some ⟨bk,o,none⟩) xs.length c,.string sep] w fun e w'=>e=.returned (.string ⟨(Lib.join (xs.map (·.data.toList)) sep.data.toList).toArray⟩)∧Below w.heap.size w w')
  (h0:∀(a:Option Addr) (c:Nat) (sep:ByteArray) (w:World),Calls P f #[.slice a 0 c,.string sep] w fun e w'=>e=.returned (.string ⟨#[]⟩)∧w'=w)
  {xs:List ByteArray} {sep:ByteArray} (hN:xs.length≤140737488355328) (hlen:(QiP xs sep).size≤140737488355328):PureC P f [.d (slD encSb xs),.d (.str sep)] (.d (.str (QiP xs sep))) []:=by
 refine⟨can,rfl,by simp,.nil,fun id h=>by simp[V.mentions] at h,fun w vals ρ0 hv ht=>?_⟩;obtain⟨v1,v2⟩:=hv;have hvals:∃v,vals=#[v,.string sep]∧VR w (fun _=>False) ρ0 (.d (slD encSb xs)) v:=by
  refine⟨vals.getD 0 undef,?_,v2 0 _ rfl⟩
  apply Array.ext
  ·simpa using v1
  ·intro i hi hi';rcases i with _|_|i
   ·simp[Array.getD_eq_getD_getElem?,hi]
   ·have:=(v2 1 _ rfl).str_inv;simpa[Array.getD_eq_getD_getElem?,hi] using this
   ·simp at hi';omega
 obtain⟨v,rfl,hv⟩:=hvals;have hlen':(Lib.join (xs.map (·.data.toList)) sep.data.toList).length≤140737488355328:=by simpa[QiP,ByteArray.size] using hlen
 have fin:∀ {w':World} {e:Ending},Below w.heap.size w w'→e=Ending.returned (.string (QiP xs sep))→∃v ρ,e=.returned v∧Pure w w'∧VR w' (fun b=>b<w.heap.size) ρ (.d (.str (QiP xs sep))) v∧
   (∀b∈([]:List Nb),BR w' (fun b=>b<w.heap.size) ρ b.id (.arr b.t b.sz b.n b.row))∧(∀x∈([]:List Nb),∀y∈([]:List Nb),(ρ x.id).ph=false→(ρ y.id).ph=false→(ρ x.id).b=(ρ y.id).b→x.id=y.id)∧(∀x∈([]:List Nb),(ρ x.id).ph=false→w.heap.size≤(ρ x.id).b):=
  fun hB he=>⟨_,ρ0,he,Below.pure hB,.d .str,by simp,by simp,by simp⟩
 have empty:∀(a:Option Addr) (c:Nat),xs.length=0→Calls P f #[.slice a xs.length c,.string sep] w fun e w'=>∃v ρ,e=.returned v∧Pure w w'∧VR w' (fun b=>b<w.heap.size) ρ (.d (.str (QiP xs sep))) v∧
   (∀b∈([]:List Nb),BR w' (fun b=>b<w.heap.size) ρ b.id (.arr b.t b.sz b.n b.row))∧(∀x∈([]:List Nb),∀y∈([]:List Nb),(ρ x.id).ph=false→(ρ y.id).ph=false→(ρ x.id).b=(ρ y.id).b→x.id=y.id)∧(∀x∈([]:List Nb),(ρ x.id).ph=false→w.heap.size≤(ρ x.id).b):=fun a c hn=>by
  have hx:xs=[]:=List.eq_nil_of_length_eq_zero hn;subst hx;refine Calls.mono (h0 a c sep w) ?_;rintro e w' ⟨rfl,rfl⟩;exact fin (Below.refl _ _) (by simp[QiP,Lib.join_nil])
 cases hv with
 |d hd=>
  cases hd with
  |sl0 hn=>have:=empty ‹_› ‹_› hn;rw[hn] at this;exact this
  |sl vals ho hb hl hcell hval hcap=>
   rename_i b o c sz
   by_cases hn:xs.length=0
   ·exact empty _ _ hn
   have hsz:sz=1:=by have:=hl 0 (by omega);simpa[rows] using this.symm
   subst hsz;refine Calls.mono (hc b o c xs sep w (fun j x hj=>?_) hb hN hcap hlen') ?_
   ·have hj':j<xs.length:=(List.getElem?_eq_some_iff.1 hj).1;have hr:(rows encSb xs j)[0]? =some (.str x):=by
     simp only[rows,encSb,List.getD_eq_getElem?_getD,hj];rfl
    have h1:=hcell j 0 _ hj' hr;have h2:=hval j 0 _ hj' hr;rw[show o+j=o+j*1+0 by omega,h1];exact congrArg some (Qx9 h2)
   ·rintro e w' ⟨rfl,hB⟩;exact fin hB rfl
end Go.Ab
namespace Go.Ab
open Go.RowKit
variable {P:Program}
def Qrh (s sep:ByteArray):ByteArray×ByteArray×Bool:=(⟨(Lib.cut s.data.toList sep.data.toList).1.toArray⟩,⟨(Lib.cut s.data.toList sep.data.toList).2.1.toArray⟩,(Lib.cut s.data.toList sep.data.toList).2.2)
noncomputable def QkE (s sep:ByteArray):List ByteArray:=Lib.splitB sep 0 (Lib.countB s sep) s
theorem Qrj {w:World} {ow:Nat→Prop} {ρ:Env} {a:ByteArray} {vals:Array Value} (h:QgA w ow ρ [.d (.str a)] vals):vals=#[.string a]:=by
 obtain⟨v1,v2⟩:=h
 apply Array.ext
 ·simpa using v1
 ·intro i hi hi';have:i=0:=by simp at hi';exact hi'
  subst this;have:=(v2 0 _ rfl).str_inv;simpa[Array.getD_eq_getD_getElem?,hi] using this
theorem QnF {w:World} {ow:Nat→Prop} {ρ:Env} {a b:ByteArray} {vals:Array Value} (h:QgA w ow ρ [.d (.str a),.d (.str b)] vals):vals=#[.string a,.string b]:=by
 obtain⟨v1,v2⟩:=h
 apply Array.ext
 ·simpa using v1
 ·intro i hi hi';rcases i with _|_|i
  ·have:=(v2 0 _ rfl).str_inv;simpa[Array.getD_eq_getD_getElem?,hi] using this
  ·have:=(v2 1 _ rfl).str_inv;simpa[Array.getD_eq_getD_getElem?,hi] using this
  ·simp at hi';omega
theorem Qgq {f:FuncId} {args:List V} {res:V} {v:Value} (can:Callable P f) (flat:QbR res=true) (ids:∀id,res.mentions id=false) (hres:∀w ow ρ,VR w ow ρ res v)
  (h:∀w vals ρ0,QgA w (fun _=>False) ρ0 args vals→TabB P (fun b=>b<w.heap.size) w→Calls P f vals w fun e w'=>e=.returned v∧Pure w w'):PureC P f args res []:=
 ⟨can,flat,by simp,.nil,fun id h=>(by rw[ids id] at h;cases h),fun w vals ρ0 hv ht=>(h w vals ρ0 hv ht).mono fun e w' ⟨he,hp⟩=>⟨v,ρ0,he,hp,hres _ _ _,by simp,by simp,by simp⟩⟩
theorem QqP (w:World) (n:Nat):Pure w (w.drewN n):=⟨rfl,rfl,rfl,by simp,fun b hb=>by simp⟩
theorem Qri {f : FuncId} {g : Nat} (can : Callable P f) (hg : P.globalNamed (varNames.getD 0 "") = some g)
  (hc:∀(s sep:ByteArray) (m:Int) (w:World),s.size<4294967281→w.cell? ⟨g,0,none⟩=some (.int .i64 m)→
   Calls P f #[.string s,.string sep] w fun e w'=>e=.returned (.tuple #[.string ⟨(Lib.cut s.data.toList sep.data.toList).1.toArray⟩,.string ⟨(Lib.cut s.data.toList sep.data.toList).2.1.toArray⟩,.bool (Lib.cut s.data.toList sep.data.toList).2.2])∧∃n,w'=w.drewN n)
  {s sep:ByteArray} (hs:s.size<4294967281):PureC P f [.d (.str s),.d (.str sep)] (.tup [.d (.str (Qrh s sep).1),.d (.str (Qrh s sep).2.1),.d (.bool (Qrh s sep).2.2)]) []:=by
 refine Qgq (v:=.tuple #[.string (Qrh s sep).1,.string (Qrh s sep).2.1,.bool (Qrh s sep).2.2]) can rfl (fun _=>rfl) (fun w ow ρ=>.tup rfl fun j v hj=>?_) fun w vals ρ0 hv ht=>?_
 ·rcases j with _|_|_|j
  ·simp at hj;subst hj;exact .d .str
  ·simp at hj;subst hj;exact .d .str
  ·simp at hj;subst hj;exact .d .bool
  ·simp at hj
 ·rw[QnF hv];obtain⟨_,v,h1,m,rfl⟩:=ht.2 0 _ g rfl hg;refine(hc s sep m w hs h1).mono ?_;rintro e w' ⟨rfl,n,rfl⟩;exact⟨rfl,QqP w n⟩
theorem Qn7 {f : FuncId} {g : Nat} {t : TypeId} (can : Callable P f) (hg : P.globalNamed (varNames.getD 0 "") = some g)
  (hc:∀(s sep:ByteArray) (m:Int) (w:World),s.size<4294967281→w.cell? ⟨g,0,none⟩=some (.int .i64 m)→1≤sep.size→
   Calls P f #[.string s,.string sep] w fun e w'=>e=.returned (.slice (some ⟨w.heap.size,0,none⟩) (Lib.countB s sep+1) (Lib.countB s sep+1))∧w'=w.alloc (.cells ((Lib.splitB sep 0 (Lib.countB s sep) s).map Value.string).toArray t))
  {t':TypeId} {s sep:ByteArray} (hs:s.size<4294967281) (h1:1≤sep.size):PureC P f [.d (.str s),.d (.str sep)] (.osl 5001 0 (QkE s sep).length) [⟨5001,t',1,(QkE s sep).length,Go.Ab.rows encSb (QkE s sep)⟩]:=by
 have hlen:(QkE s sep).length=Lib.countB s sep+1:=Lib.splitB_all sep h1 0 _ s rfl;refine⟨can,rfl,?_,List.pairwise_singleton _ _,fun id h=>?_,fun w vals ρ0 hv ht=>?_⟩
 ·intro b hb i hi d hd;simp at hb;subst hb;simp[Go.Ab.rows,encSb] at hd;subst hd;rfl
 ·simp[V.mentions] at h;exact⟨_,List.mem_singleton.2 rfl,h⟩
 rw[QnF hv];obtain⟨_,v,h2,m,rfl⟩:=ht.2 0 _ g rfl hg;refine(hc s sep m w hs h2 h1).mono ?_;rintro e w' ⟨rfl,rfl⟩;have hr:∀ow,BR (w.alloc (.cells ((Lib.splitB sep 0 (Lib.countB s sep) s).map Value.string).toArray t)) ow (ρ0.set 5001 ⟨w.heap.size,0,1,(QkE s sep).length,(QkE s sep).length,false⟩) 5001 (.arr t' 1 (QkE s sep).length (Go.Ab.rows encSb (QkE s sep))):=fun ow=>by
  refine .arr ((QkE s sep).map Value.string).toArray t ?_ ?_ ?_ ?_ (fun i _=>rfl) ?_ ?_ fun i j d hi hd=>?_
  ·rw[Env.set_same]
  ·rw[Env.set_same]
  ·rw[Env.set_same]
  ·rw[Env.set_same];exact Nat.le_refl _
  ·rw[Env.set_same];exact heap_alloc_new w _
  ·rw[Env.set_same];simp
  ·rw[Env.set_same]
   cases j with
   |succ j=>simp[Go.Ab.rows,encSb] at hd
   |zero=>
    simp only[Go.Ab.rows,encSb,List.getElem?_cons_zero,Option.some.injEq] at hd;subst hd;have e:(((QkE s sep).map Value.string).toArray).getD (0+i*1+0) undef=Value.string ((QkE s sep).getD i default):=by
     rw[Array.getD_eq_getD_getElem?];simp[List.getD_eq_getElem?_getD,hi]
    rw[e];exact .str
 refine⟨_,ρ0.set 5001 ⟨w.heap.size,0,1,(QkE s sep).length,(QkE s sep).length,false⟩,rfl,Pure.alloc w _,?_,?_,?_,?_⟩
 ·have:=VR.osl (w:=w.alloc (.cells ((Lib.splitB sep 0 (Lib.countB s sep) s).map Value.string).toArray t)) (own:=fun b=>b<w.heap.size) (ρ:=ρ0.set 5001 ⟨w.heap.size,0,1,(QkE s sep).length,(QkE s sep).length,false⟩) (id:=5001) (off:=0) (len:=(QkE s sep).length) (by rw[Env.set_same]) (by rw[Env.set_same];simp) (by rw[Env.set_same];exact Nat.le_refl _);rw[Env.set_same] at this;rw[←hlen];simpa using this
 ·intro b hb;simp at hb;subst hb;exact hr _
 ·intro x hx y hy;simp at hx hy;subst hx hy;intros;rfl
 ·intro x hx _;simp at hx;subst hx;rw[Env.set_same];exact Nat.le_refl _
noncomputable def Qwo (s:ByteArray):Int:=match Lib.atoiAll s.data.toList with
 | .ok v=>if v<0∨Ql1 v≠s then-1 else v
 |_=>-1
theorem QmY {l:List UInt8} {v:Int} (h:Lib.atoiAll l=.ok v):-9223372036854775808≤v∧v≤9223372036854775807:=by
 unfold Lib.atoiAll at h;split at h
 ·cases h
 ·simp only at h;split at h
  ·cases h
  ·cases h
  ·split at h
   ·cases h
   ·split at h
    ·cases h
    ·cases h
     split<;>omega
theorem QjA {w w':World} {k:Nat} {os:Array Obj} (h:Below w.heap.size w w'):Below w.heap.size w (Sort.grow (w'.drewN k) os):=
 ⟨h.os,h.tape,h.output,by have:=h.size;simp[Sort.grow];omega,fun b hb=>by
  have:=h.block b hb;have hs:=h.size;rw[←this];have hlt:b<w'.heap.size:=by omega
  simp[Sort.grow,Array.getElem?_append,hlt]⟩
theorem Qu5 {v:Int} {s:ByteArray}:Ql1 v=s↔Lib.itoa v=s.toList:=by
 rw[Lib.toList_data s]
 constructor
 ·intro he;subst he;simp[Ql1]
 ·intro he;cases s;simp[Ql1] at*;rw[he]
theorem QmZ {w w':World} (hg:(P.globalNamed QdG).isSome=true) (ht:TabB P (fun b=>b<w.heap.size) w) (hB:Below w.heap.size w w'):w'.var? P QdG=some Qwp:=by
 obtain⟨gt,hgt⟩:=Option.isSome_iff_exists.1 hg;exact((ht.keep (B':=fun b=>b<w.heap.size) ⟨hB.os,hB.tape,hB.output,hB.size,hB.block⟩ (fun _ h=>h)).1 gt hgt).2
end Go.Ab
namespace Go.Ab
open Go.RowKit
variable {P:Program}
theorem QfK {w:World} {nm:String} {d:DataW Unit}:∀ {l:List (String×DataW Unit)} {ps:List MemPlace},DataW.LaidVars P w l ps→(nm,d)∈l→
  ∃g t cs fuel p,P.globalNamed nm=some g∧(P.globals[g]?).map (·.type)=some t∧w.var? P nm=some cs∧DataW.trod (fun _=>()) P w 0 (fun _=>true) false fuel t cs.toList=some (d,p)
 |[],_,_,h=>by cases h
 |(n,e)::r,ps,hl,h=>by
  obtain⟨g,t,cs,fuel,p,q,e1,e2,e3,e4,hr,rfl⟩:=hl;rcases List.mem_cons.1 h with h|h
  ·cases h
   exact⟨g,t,cs,fuel,p,e1,e2,e3,e4⟩
  ·exact QfK hr h
theorem QvM {W:World} {nm:String} (e:nm=QdG) {g n:Nat} {t el:TypeId} (hg0:P.globalNamed QdG=some g) (hty0:(P.globals[g]?).map (·.type)=some t) (ht:P.underlying t=some (.array n el)) (he:P.underlying el=some (.int .u64)) (hce:P.cellsOf el=1) (hct:P.cellsOf t=n)
  {l:List (String×DataW Unit)} {d:DataW Unit} (hm:(nm,d)∈l) (hd:d=Lib.tabData .u64 Lib.pow10Tab) (h:laidMet P l W):W.var? P QdG=some Qwp:=by
 subst e hd;obtain⟨ps,h1,_,_⟩:=h;obtain⟨g',t',cs,fuel,p,e1,e2,e3,e4⟩:=QfK h1 hm;obtain rfl:=Option.some.inj (hg0.symm.trans e1);obtain rfl:=Option.some.inj (hty0.symm.trans e2);have:=Lib.cells_of_tab ht he hce hct e4;rw[e3]
 congr 1
 apply Array.ext'
 rw[this]
 kernel_rfl
theorem QnG {w:World} {g:Nat} {t:TypeId} {zero:Array Value} (h:w.ShapedOpen P) (hg:g<P.globals.size)
  (h0:((begin P (fun _ _=>0) default).world.heap[g]?).bind Obj.row? =some (zero,t)) (hz:zero.size=1)
  (hb:P.buildable t=true) (hc:P.cellTypes P.depth t=some [t]) (hu:P.underlying t=some (.int .i64)):∃m,w.cell? ⟨g,0,none⟩=some (.int .i64 m):=by
 obtain⟨cs,hh,hs,hr⟩:=h.1 g zero t hg h0;obtain⟨ts,hts,_,hall⟩:=hr hb;rw[hc] at hts
 cases hts
 have h1:0<cs.size:=by omega
 obtain⟨u,hu',hok⟩:=hall 0 cs[0] (by simp[h1]);have:u=t:=by simpa using hu'.symm
 subst this;have hcell:w.cell? ⟨g,0,none⟩=some cs[0]:=by simp[World.cell?,hh,h1]
 rw[hcell];unfold Cell.ok at hok;rw[hu] at hok
 cases hv:cs[0]<;>rw[hv] at hok<;>first|(obtain⟨rfl,_⟩:=hok;exact⟨_,rfl⟩)|simp at hok
theorem QuN {W:World} {nm name:String} {g:Nat} {t:TypeId} {ms:Array (String×TypeId)} (hg0:P.globalNamed nm=some g) (hty0:(P.globals[g]?).map (·.type)=some t) (hi:P.underlying t=some (.interface ms))
  {l:List (String×DataW Unit)} {d:DataW Unit} (hm:(nm,.iface name d)∈l) (h:laidMet P l W):∃te pe,W.cell? ⟨g,0,none⟩=some (.iface te pe):=by
 obtain⟨ps,h1,_,_⟩:=h;obtain⟨g',t',cs,fuel,p,e1,e2,e3,e4⟩:=QfK h1 hm;obtain rfl:=Option.some.inj (hg0.symm.trans e1);obtain rfl:=Option.some.inj (hty0.symm.trans e2);have key:∃u v,cs.toList=[.iface u v]:=by
  cases fuel with
  |zero=>simp[DataW.trod] at e4
  |succ f=>
   unfold DataW.trod at e4;rw[hi] at e4;split at e4<;>first|exact⟨_,_,by assumption⟩|(simp at e4;done)|(rename_i a b;simp at a;done)|skip
   all_goals (first|exact⟨_,_,rfl⟩|(rename_i a;cases a)|cases e4)
 obtain⟨u,v,e5⟩:=key;have e6:cs=#[.iface u v]:=Array.ext' e5;subst e6;refine⟨u,v,?_⟩;unfold World.var? at e3;rw[e1] at e3;simp only[Option.bind_some] at e3
 cases hh:W.heap[g]? with
 |none=>rw[hh] at e3;simp at e3
 |some o=>
  rw[hh] at e3
  cases o<;>first|(simp at e3;subst e3;simp[World.cell?,hh];done)|simp at e3
theorem Qsf {a:Assume} {C:Checked} {os:Os} {f:FuncId} {fn:Func} {s:ChangeSpec} {H:Type} {enc:TypeId×Value→H} {fu:Nat} {tb:Tb} {rt:TypeId} {X:World→Array Value→Prop} (hT:TOk C.prog tb)
  (hX:∀(w w':World) (args:Array Value),w.heap=w'.heap→X w args→X w' args) (tab:∀W args,X W args→W.var? C.prog QdG=some Qwp) (vars:∀W args,X W args→W.ShapedOpen C.prog→∀i nm g,varNames[i]? =some nm→C.prog.globalNamed nm=some g→∃v,W.cell? ⟨g,0,none⟩=some v∧Qvg i v)
  (own:ownKnob C.prog.godebug=none) (started:os.Started) (noInit:C.prog.inits.idxOf? f=none) (hfn:C.prog.funcs[f]? =some fn)
  (witness:∃(w:World) (tape:Tape) (i:Input),w.os=os∧(w.forCall tape i).Shaped C.prog∧i.vars=[]∧Input.okWide C.prog (w.forCall tape i) .any w.heap.size f i∧
   ((s.pre enc C.prog fn [] false (w.forCall tape i).memory i.args∧X (w.forCall tape i).memory i.args)∧sizedMet enc C.prog fn (OpenSpec.ofChange s) false (w.forCall tape i).memory i.args)∧a.holds C.prog (lone (Frame.enter C.prog f i.args .normal) [] (w.forCall tape i)))
  (hl:laidOutB C.prog=true) (hread:fn.params.toList.all (fun t=>C.prog.readableRec t&&decide (t<C.prog.types.size))=true) (hok:fn.params.toList.all (QrT tb fu)=true) (hvars:s.vars=[])
  (hres:fn.resultTypes=#[rt]) (hbool:C.prog.underlying rt=some .bool)
  (hspec:∀ds:List (DataW H),ds.length=fn.params.toList.length→s.fn H ds={results:=[.lit (.bool true)],args:=ds})
  (law:∀dss,QeV tb fu fn.params.toList dss→PureC C.prog f (Qmq tb fn.params.toList dss) (.d (.bool true)) []):
  ReturnsInHanded a C os f .any (fun w args=>(s.pre enc C.prog fn [] false w args∧X w args)∧sizedMet enc C.prog fn (OpenSpec.ofChange s) false w args) (s.post enc C.prog fn false true false false):=
 Qh5 hX own started noInit hfn witness fun W base args ds gs before hval hW _ hwt hx hsh _=>Qtx hT hl hread hok hvars hres hbool hspec law W base args ds gs before hval hW hwt ⟨fun g hg=>by
  have hv:=tab W args hx;refine⟨?_,hv⟩;unfold World.var? at hv;rw[hg] at hv
  cases hh:W.heap[g]? with
  |none=>simp[hh] at hv
  |some o=>exact(Array.getElem?_eq_some_iff.1 hh).1,fun i nm g hi hg=>by
  obtain⟨v,h1,h2⟩:=vars W args hx hsh i nm g hi hg;exact⟨Qru h1,v,h1,h2⟩⟩
end Go.Ab
