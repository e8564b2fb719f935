/-
  Library functions by the kit's contracts; rows that tell variables: a part of the frame in which a given row's proof walks the program; no condition.
-/
import Derived.Test.YtoknnjiangjccaaGreatDoorAbz6
import Derived.Shelf.Strconv.Itoa3
import Derived.Shelf.Strings.OnBuilder
import Derived.Shelf.Strings.Cut
import Derived.Shelf.Strings.Split
import Derived.Lib.AtoiErrMem
import Derived.Lib.AtoiAll
import Derived.Lib.LaidTab
import Derived.ProofKit
import Derived.OpenShut
import Derived.LaidMore
import Derived.Lay
import Derived.SevenTiedAt
import Derived.Stop.Joined
set_option linter.all false
namespace Go.Ab
open Go.RowKit
variable {P:Program}
noncomputable def Qnh (n:Int):ByteArray:=⟨(Lib.itoa n).toArray⟩
noncomputable def QjW (xs:List ByteArray) (sep:ByteArray):ByteArray:=⟨(Lib.join (xs.map (·.data.toList)) sep.data.toList).toArray⟩
theorem Qwi {w:World} (h:w.var? P Qek=some QyE):Lib.TabIs P w Qek .u64 Lib.pow10Tab:=h.trans (congrArg some (by kernel_rfl))
theorem QAo {w:World} {ow:Nat->Prop} {x:ByteArray} {v:Value} (h:DR w ow (.str x) v):v=.string x:=by cases h;rfl
theorem QrG {f:FuncId} (can:Callable P f)
  (hc:∀(bk o c:Nat) (xs:List ByteArray) (sep:ByteArray) (w:World),(∀(j:Nat) x,xs[j]? =some x->w.cell? ⟨bk,o+j,none⟩=some (.string x))->bk<w.heap.size->xs.length<=140737488355328->xs.length<=c->
   (Lib.join (xs.map (·.data.toList)) sep.data.toList).length<=140737488355328->
   Calls P f #[.slice (some ⟨bk,o,none⟩) xs.length c,.string sep] w fun e w'=>e=.returned (.string ⟨(Lib.join (xs.map (·.data.toList)) sep.data.toList).toArray⟩)∧Below w.heap.size w w')
  (h0:∀(a:Option Addr) (c:Nat) (sep:ByteArray) (w:World),Calls P f #[.slice a 0 c,.string sep] w fun e w'=>e=.returned (.string ⟨#[]⟩)∧w'=w)
  {xs:List ByteArray} {sep:ByteArray} (hN:xs.length<=140737488355328) (hlen:(QjW xs sep).size<=140737488355328):PureC P f [.d (slD encSb xs),.d (.str sep)] (.d (.str (QjW xs sep))) []:=by
 refine⟨can,rfl,by simp,.nil,fun id h=>by simp[V.mentions] at h,fun w vals ρ0 hv ht=>?_⟩;obtain⟨v1,v2⟩:=hv;have hvals:∃v,vals=#[v,.string sep]∧VR w (fun _=>False) ρ0 (.d (slD encSb xs)) v:=by
  refine⟨vals.getD 0 undef,?_,v2 0 _ rfl⟩
  apply Array.ext
  ·simpa using v1
  ·intro i hi hi';rcases i with _|_|i
   ·simp[Y6,hi]
   ·have:=(v2 1 _ rfl).str_inv;simpa[Y6,hi] using this
   ·simp at hi';omega
 obtain⟨v,rfl,hv⟩:=hvals;have hlen':(Lib.join (xs.map (·.data.toList)) sep.data.toList).length<=140737488355328:=by simpa[QjW,ByteArray.size] using hlen
 have fin:∀ {w':World} {e:Ending},Below w.heap.size w w'->e=Ending.returned (.string (QjW xs sep))->∃v ρ,e=.returned v∧Pure w w'∧VR w' (fun b=>b<w.heap.size) ρ (.d (.str (QjW xs sep))) v∧
   (∀b∈([]:List Nb),BR w' (fun b=>b<w.heap.size) ρ b.id (.arr b.t b.sz b.n b.row))∧(∀x∈([]:List Nb),∀y∈([]:List Nb),(ρ x.id).ph=false->(ρ y.id).ph=false->(ρ x.id).b=(ρ y.id).b->x.id=y.id)∧(∀x∈([]:List Nb),(ρ x.id).ph=false->w.heap.size<=(ρ x.id).b):=
  fun hB he=>⟨_,ρ0,he,Below.pure hB,.d .str,by simp,by simp,by simp⟩
 have empty:∀(a:Option Addr) (c:Nat),xs.length=0->Calls P f #[.slice a xs.length c,.string sep] w fun e w'=>∃v ρ,e=.returned v∧Pure w w'∧VR w' (fun b=>b<w.heap.size) ρ (.d (.str (QjW xs sep))) v∧
   (∀b∈([]:List Nb),BR w' (fun b=>b<w.heap.size) ρ b.id (.arr b.t b.sz b.n b.row))∧(∀x∈([]:List Nb),∀y∈([]:List Nb),(ρ x.id).ph=false->(ρ y.id).ph=false->(ρ x.id).b=(ρ y.id).b->x.id=y.id)∧(∀x∈([]:List Nb),(ρ x.id).ph=false->w.heap.size<=(ρ x.id).b):=fun a c hn=>by
  have hx:xs=[]:=Yv hn;subst hx;refine Calls.mono (h0 a c sep w) ?_;rintro e w' ⟨rfl,rfl⟩;exact fin (Below.refl _ _) (by simp[QjW,Lib.join_nil])
 cases hv with
 |d hd=>
  cases hd with
  |sl0 hn=>have:=empty ‹_› ‹_› hn;rw[hn] at this;exact this
  |sl vals ho hb hl hcell hval hcap=>
   rename_i b o c sz
   by_cases hn:xs.length=0
   ·exact empty _ _ hn
   have hsz:sz=1:=by have:=hl 0 (by omega);simpa[rows] using this.symm
   subst hsz;refine Calls.mono (hc b o c xs sep w (fun j x hj=>?_) hb hN hcap hlen') ?_
   ·have hj':j<xs.length:=(Y8.1 hj).1;have hr:(rows encSb xs j)[0]? =some (.str x):=by
     simp only[rows,encSb,Y1,hj];rfl
    have h1:=hcell j 0 _ hj' hr;have h2:=hval j 0 _ hj' hr;rw[show o+j=o+j*1+0 by omega,h1];exact congrArg some (QAo h2)
   ·rintro e w' ⟨rfl,hB⟩;exact fin hB rfl
end Go.Ab
namespace Go.Ab
open Go.RowKit
variable {P:Program}
def QsI (s sep:ByteArray):ByteArray×ByteArray×Bool:=(⟨(Lib.cut s.data.toList sep.data.toList).1.toArray⟩,⟨(Lib.cut s.data.toList sep.data.toList).2.1.toArray⟩,(Lib.cut s.data.toList sep.data.toList).2.2)
noncomputable def QlL (s sep:ByteArray):List ByteArray:=Lib.splitB sep 0 (Lib.countB s sep) s
theorem QsP {w:World} {ow:Nat->Prop} {ρ:Env} {a:ByteArray} {vals:Array Value} (h:Qhx w ow ρ [.d (.str a)] vals):vals=#[.string a]:=by
 have⟨I,J⟩:=h
 apply Array.ext
 ·simpa using I
 ·intro i hi G;have:i=0:=by simp at G;exact G
  subst this;have:=(J 0 _ rfl).str_inv;simpa[Y6,hi] using this
theorem Qo1 {w:World} {ow:Nat->Prop} {ρ:Env} {a b:ByteArray} {vals:Array Value} (h:Qhx w ow ρ [.d (.str a),.d (.str b)] vals):vals=#[.string a,.string b]:=by
 have⟨J,I⟩:=h
 apply Array.ext
 ·simpa using J
 ·intro i hi G;rcases i with _|_|i
  ·have:=(I 0 _ rfl).str_inv;simpa[Y6,hi] using this
  ·have:=(I 1 _ rfl).str_inv;simpa[Y6,hi] using this
  ·simp at G;omega
theorem Qhn {f:FuncId} {args:List V} {res:V} {v:Value} (can:Callable P f) (flat:Qcl res=true) (ids:∀id,res.mentions id=false) (G:∀w ow ρ,VR w ow ρ res v)
  (h:∀w vals ρ0,Qhx w (fun _=>False) ρ0 args vals->TabB P (fun b=>b<w.heap.size) w->Calls P f vals w fun e w'=>e=.returned v∧Pure w w'):PureC P f args res []:=
 ⟨can,flat,by simp,.nil,fun id h=>(by rw[ids id] at h;cases h),fun w vals ρ0 hv ht=>(h w vals ρ0 hv ht).mono fun e w' ⟨I,hp⟩=>⟨v,ρ0,I,hp,G _ _ _,by simp,by simp,by simp⟩⟩
theorem Qsj (w:World) (n:Nat):Pure w (w.drewN n):=⟨rfl,rfl,rfl,by simp,fun b hb=>by simp⟩
theorem QsO {f : FuncId} {g : Nat} (can : Callable P f) (G : P.globalNamed (varNames.getD 0 "") = some g)
  (hc:∀(s sep:ByteArray) (m:Int) (w:World),s.size<4294967281->w.cell? ⟨g,0,none⟩=some (.int .i64 m)->
   Calls P f #[.string s,.string sep] w fun e w'=>e=.returned (.tuple #[.string ⟨(Lib.cut s.data.toList sep.data.toList).1.toArray⟩,.string ⟨(Lib.cut s.data.toList sep.data.toList).2.1.toArray⟩,.bool (Lib.cut s.data.toList sep.data.toList).2.2])∧∃n,w'=w.drewN n)
  {s sep:ByteArray} (hs:s.size<4294967281):PureC P f [.d (.str s),.d (.str sep)] (.tup [.d (.str (QsI s sep).1),.d (.str (QsI s sep).2.1),.d (.bool (QsI s sep).2.2)]) []:=by
 refine Qhn (v:=.tuple #[.string (QsI s sep).1,.string (QsI s sep).2.1,.bool (QsI s sep).2.2]) can rfl (fun _=>rfl) (fun w ow ρ=>.tup rfl fun j v hj=>?_) fun w vals ρ0 hv ht=>?_
 ·rcases j with _|_|_|j
  ·simp at hj;subst hj;exact .d .str
  ·simp at hj;subst hj;exact .d .str
  ·simp at hj;subst hj;exact .d .bool
  ·simp at hj
 ·rw[Qo1 hv];obtain⟨_,v,h1,m,rfl⟩:=ht.2 0 _ g rfl G;refine(hc s sep m w hs h1).mono ?_;rintro e w' ⟨rfl,n,rfl⟩;exact⟨rfl,Qsj w n⟩
theorem QpF {f : FuncId} {g : Nat} {t : TypeId} (can : Callable P f) (hg : P.globalNamed (varNames.getD 0 "") = some g)
  (hc:∀(s sep:ByteArray) (m:Int) (w:World),s.size<4294967281->w.cell? ⟨g,0,none⟩=some (.int .i64 m)->1<=sep.size->
   Calls P f #[.string s,.string sep] w fun e w'=>e=.returned (.slice (some ⟨w.heap.size,0,none⟩) (Lib.countB s sep+1) (Lib.countB s sep+1))∧w'=w.alloc (.cells ((Lib.splitB sep 0 (Lib.countB s sep) s).map Value.string).toArray t))
  {U:TypeId} {s sep:ByteArray} (hs:s.size<4294967281) (h1:1<=sep.size):PureC P f [.d (.str s),.d (.str sep)] (.osl 5001 0 (QlL s sep).length) [⟨5001,U,1,(QlL s sep).length,Go.Ab.rows encSb (QlL s sep)⟩]:=by
 have I:(QlL s sep).length=Lib.countB s sep+1:=Lib.splitB_all sep h1 0 _ s rfl;refine⟨can,rfl,?_,List.pairwise_singleton _ _,fun id h=>?_,fun w vals ρ0 hv ht=>?_⟩
 ·intro b hb i hi d G;simp at hb;subst hb;simp[Go.Ab.rows,encSb] at G;subst G;rfl
 ·simp[V.mentions] at h;exact⟨_,Xa.2 rfl,h⟩
 rw[Qo1 hv];obtain⟨_,v,h2,m,rfl⟩:=ht.2 0 _ g rfl hg;refine(hc s sep m w hs h2 h1).mono ?_;rintro e w' ⟨rfl,rfl⟩;have Y:∀ow,BR (w.alloc (.cells ((Lib.splitB sep 0 (Lib.countB s sep) s).map Value.string).toArray t)) ow (ρ0.set 5001 ⟨w.heap.size,0,1,(QlL s sep).length,(QlL s sep).length,false⟩) 5001 (.arr U 1 (QlL s sep).length (Go.Ab.rows encSb (QlL s sep))):=fun ow=>by
  refine .arr ((QlL s sep).map Value.string).toArray t ?_ ?_ ?_ ?_ (fun i _=>rfl) ?_ ?_ fun i j d hi G=>?_
  ·rw[Env.set_same]
  ·rw[Env.set_same]
  ·rw[Env.set_same]
  ·rw[Env.set_same];exact Yi _
  ·rw[Env.set_same];exact heap_alloc_new w _
  ·rw[Env.set_same];simp
  ·rw[Env.set_same]
   cases j with
   |succ j=>simp[Go.Ab.rows,encSb] at G
   |zero=>
    simp only[Go.Ab.rows,encSb,XG,Y9] at G;subst G;have e:(((QlL s sep).map Value.string).toArray).getD (0+i*1+0) undef=Value.string ((QlL s sep).getD i default):=by
     rw[Y6];simp[Y1,hi]
    rw[e];exact .str
 refine⟨_,ρ0.set 5001 ⟨w.heap.size,0,1,(QlL s sep).length,(QlL s sep).length,false⟩,rfl,Pure.alloc w _,?_,?_,?_,?_⟩
 ·have:=VR.osl (w:=w.alloc (.cells ((Lib.splitB sep 0 (Lib.countB s sep) s).map Value.string).toArray t)) (own:=fun b=>b<w.heap.size) (ρ:=ρ0.set 5001 ⟨w.heap.size,0,1,(QlL s sep).length,(QlL s sep).length,false⟩) (id:=5001) (off:=0) (len:=(QlL s sep).length) (by rw[Env.set_same]) (by rw[Env.set_same];simp) (by rw[Env.set_same];exact Yi _);rw[Env.set_same] at this;rw[<-I];simpa using this
 ·intro b hb;simp at hb;subst hb;exact Y _
 ·intro x J y O;simp at J O;subst J O;intros;rfl
 ·intro x J _;simp at J;subst J;rw[Env.set_same];exact Yi _
noncomputable def QyD (s:ByteArray):Int:=match Lib.atoiAll s.data.toList with
 | .ok v=>if v<0∨Qnh v≠s then-1 else v
 |_=>-1
theorem Qoi {l:List UInt8} {v:Int} (h:Lib.atoiAll l=.ok v):-9223372036854775808<=v∧v<=9223372036854775807:=by
 unfold Lib.atoiAll at h;split at h
 ·cases h
 ·simp only at h;split at h
  ·cases h
  ·cases h
  ·split at h
   ·cases h
   ·split at h
    ·cases h
    ·cases h
     split<;>omega
theorem QkJ {w w':World} {k:Nat} {os:Array Obj} (h:Below w.heap.size w w'):Below w.heap.size w (Sort.grow (w'.drewN k) os):=
 ⟨h.os,h.tape,h.output,by have:=h.size;simp[Sort.grow];omega,fun b hb=>by
  have:=h.block b hb;have hs:=h.size;rw[<-this];have G:b<w'.heap.size:=by omega
  simp[Sort.grow,Array.getElem?_append,G]⟩
theorem QwW {v:Int} {s:ByteArray}:Qnh v=s↔Lib.itoa v=s.toList:=by
 rw[Lib.toList_data s]
 constructor
 ·intro G;subst G;simp[Qnh]
 ·intro G;cases s;simp[Qnh] at*;rw[G]
theorem Qoj {w w':World} (I:(P.globalNamed Qek).isSome=true) (ht:TabB P (fun b=>b<w.heap.size) w) (hB:Below w.heap.size w w'):w'.var? P Qek=some QyE:=by
 have⟨J,G⟩:=Option.isSome_iff_exists.1 I;exact((ht.keep (B':=fun b=>b<w.heap.size) ⟨hB.os,hB.tape,hB.output,hB.size,hB.block⟩ (fun _ h=>h)).1 J G).2
end Go.Ab
namespace Go.Ab
open Go.RowKit
variable {P:Program}
theorem QgD {w:World} {I:String} {d:DataW Unit}:∀ {l:List (String×DataW Unit)} {J:List MemPlace},DataW.LaidVars P w l J->(I,d)∈l->
  ∃g t cs G p,P.globalNamed I=some g∧(P.globals[g]?).map (·.type)=some t∧w.var? P I=some cs∧DataW.trod (fun _=>()) P w 0 (fun _=>true) false G t cs.toList=some (d,p)
 |[],_,_,h=>by cases h
 |(n,e)::r,J,hl,h=>by
  obtain⟨g,t,cs,G,p,q,e1,e2,U,Y,O,rfl⟩:=hl;rcases Yh.1 h with h|h
  ·cases h
   exact⟨g,t,cs,G,p,e1,e2,U,Y⟩
  ·exact QgD O h
theorem QxE {W:World} {Y:String} (e:Y=Qek) {g n:Nat} {t J:TypeId} (U:P.globalNamed Qek=some g) (G:(P.globals[g]?).map (·.type)=some t) (ht:P.underlying t=some (.array n J)) (he:P.underlying J=some (.int .u64)) (O:P.cellsOf J=1) (I:P.cellsOf t=n)
  {l:List (String×DataW Unit)} {d:DataW Unit} (hm:(Y,d)∈l) (hd:d=Lib.tabData .u64 Lib.pow10Tab) (h:laidMet P l W):W.var? P Qek=some QyE:=by
 subst e hd;have⟨ps,h1,_,_⟩:=h;have⟨g',t',cs,fuel,p,e1,e2,e3,e4⟩:=QgD h1 hm;obtain rfl:=Yw (U.symm.trans e1);obtain rfl:=Yw (G.symm.trans e2);have:=Lib.cells_of_tab ht he O I e4;rw[e3]
 congr 1
 apply Xc
 rw[this]
 kernel_rfl
theorem Qo2 {w:World} {g:Nat} {t:TypeId} {zero:Array Value} (h:w.ShapedOpen P) (hg:g<P.globals.size)
  (Y:((begin P (fun _ _=>0) default).world.heap[g]?).bind Obj.row? =some (zero,t)) (hz:zero.size=1)
  (hb:P.buildable t=true) (hc:P.cellTypes P.depth t=some [t]) (hu:P.underlying t=some (.int .i64)):∃m,w.cell? ⟨g,0,none⟩=some (.int .i64 m):=by
 have⟨cs,hh,hs,hr⟩:=h.1 g zero t hg Y;have⟨ts,J,_,O⟩:=hr hb;rw[hc] at J
 cases J
 have h1:0<cs.size:=by omega
 have⟨u,U,G⟩:=O 0 cs[0] (by simp[h1]);have:u=t:=by simpa using U.symm
 subst this;have I:w.cell? ⟨g,0,none⟩=some cs[0]:=by simp[World.cell?,hh,h1]
 rw[I];unfold Cell.ok at G;rw[hu] at G
 cases hv:cs[0]<;>rw[hv] at G<;>first|(obtain⟨rfl,_⟩:=G;exact⟨_,rfl⟩)|simp at G
theorem Qwy {W:World} {nm name:String} {g:Nat} {t:TypeId} {ms:Array (String×TypeId)} (Y:P.globalNamed nm=some g) (J:(P.globals[g]?).map (·.type)=some t) (hi:P.underlying t=some (.interface ms))
  {l:List (String×DataW Unit)} {d:DataW Unit} (hm:(nm,.iface name d)∈l) (h:laidMet P l W):∃te pe,W.cell? ⟨g,0,none⟩=some (.iface te pe):=by
 have⟨ps,h1,_,_⟩:=h;have⟨g',t',cs,O,p,e1,e2,G,I⟩:=QgD h1 hm;obtain rfl:=Yw (Y.symm.trans e1);obtain rfl:=Yw (J.symm.trans e2);have key:∃u v,cs.toList=[.iface u v]:=by
  cases O with
  |zero=>simp[DataW.trod] at I
  |succ f=>
   unfold DataW.trod at I;rw[hi] at I;split at I<;>first|exact⟨_,_,by assumption⟩|(simp at I;done)|(rename_i a b;simp at a;done)|skip
   all_goals (first|exact⟨_,_,rfl⟩|(rename_i a;cases a)|cases I)
 have⟨u,v,e5⟩:=key;have e6:cs=#[.iface u v]:=Xc e5;subst e6;refine⟨u,v,?_⟩;unfold World.var? at G;rw[e1] at G;simp only[Y0i] at G
 cases U:W.heap[g]? with
 |none=>rw[U] at G;simp at G
 |some o=>
  rw[U] at G
  cases o<;>first|(simp at G;subst G;simp[World.cell?,U];done)|simp at G
theorem QtF {a:Assume} {C:Checked} {os:Os} {f:FuncId} {fn:Func} {s:ChangeSpec} {H:Type} {enc:TypeId×Value->H} {fu:Nat} {tb:Tb} {rt:TypeId} {X:World->Array Value->Prop} (hT:TOk C.prog tb)
  (hX:∀(w w':World) (args:Array Value),w.heap=w'.heap->X w args->X w' args) (tab:∀W args,X W args->W.var? C.prog Qek=some QyE) (a4:∀W args,X W args->W.ShapedOpen C.prog->∀i nm g,varNames[i]? =some nm->C.prog.globalNamed nm=some g->∃v,W.cell? ⟨g,0,none⟩=some v∧Qw3 i v)
  (own:ownKnob C.prog.godebug=none) (I:os.Started) (J:C.prog.inits.idxOf? f=none) (a9:C.prog.funcs[f]? =some fn)
  (G:∃(w:World) (tape:Tape) (i:Input),w.os=os∧(w.forCall tape i).Shaped C.prog∧i.vars=[]∧Input.okWide C.prog (w.forCall tape i) .any w.heap.size f i∧
   ((s.pre enc C.prog fn [] false (w.forCall tape i).memory i.args∧X (w.forCall tape i).memory i.args)∧sizedMet enc C.prog fn (OpenSpec.ofChange s) false (w.forCall tape i).memory i.args)∧a.holds C.prog (lone (Frame.enter C.prog f i.args .normal) [] (w.forCall tape i)))
  (hl:laidOutB C.prog=true) (a1:fn.params.toList.all (fun t=>C.prog.readableRec t&&decide (t<C.prog.types.size))=true) (a8:fn.params.toList.all (Qtl tb fu)=true) (U:s.vars=[])
  (a5:fn.resultTypes=#[rt]) (Y:C.prog.underlying rt=some .bool)
  (a2:∀ds:List (DataW H),ds.length=fn.params.toList.length->s.fn H ds={results:=[.lit (.bool true)],args:=ds})
  (b3:∀a3,QfB tb fu fn.params.toList a3->PureC C.prog f (QnC tb fn.params.toList a3) (.d (.bool true)) []):
  ReturnsInHanded a C os f .any (fun w args=>(s.pre enc C.prog fn [] false w args∧X w args)∧sizedMet enc C.prog fn (OpenSpec.ofChange s) false w args) (s.post enc C.prog fn false true false false):=
 Qi9 hX own I J a9 G fun W base args ds gs O a6 hW _ b2 hx a7 _=>Qu7 hT hl a1 a8 U a5 Y a2 b3 W base args ds gs O a6 hW b2 ⟨fun g hg=>by
  have hv:=tab W args hx;refine⟨?_,hv⟩;unfold World.var? at hv;rw[hg] at hv
  cases hh:W.heap[g]? with
  |none=>simp[hh] at hv
  |some o=>exact(Yr.1 hh).1,fun i nm g hi hg=>by
  have⟨v,h1,h2⟩:=a4 W args hx a7 i nm g hi hg;exact⟨QsW h1,v,h1,h2⟩⟩
end Go.Ab
