/-
  Library functions by the kit's contracts; rows that tell variables: a part of the frame in which a given row's proof walks the program; no condition.
-/
import Derived.Test.YtjjkhncoafdfmaaGreatDoorAbz6
import Derived.Shelf.Strconv.Itoa3
import Derived.Shelf.Strings.OnBuilder
import Derived.Shelf.Strings.Cut
import Derived.Shelf.Strings.Split
import Derived.Lib.AtoiErrMem
import Derived.Lib.AtoiAll
import Derived.Lib.LaidTab
import Derived.ProofKit
import Derived.OpenShut
import Derived.LaidMore
import Derived.Lay
import Derived.SevenTiedAt
import Derived.Stop.Joined
set_option linter.all false
namespace Go.Ab
open Go.RowKit
variable {P:Program}
noncomputable def Qn4 (n:Int):ByteArray:=⟨(Lib.itoa n).toArray⟩
noncomputable def QkD (xs:List ByteArray) (sep:ByteArray):ByteArray:=⟨(Lib.join (xs.map (·.data.toList)) sep.data.toList).toArray⟩
theorem Qyc {w:World} (h:w.var? P QeA=some QAp):Lib.TabIs P w QeA .u64 Lib.pow10Tab:=h.trans (congrArg some (by kernel_rfl))
theorem QCb {w:World} {ow:Nat->Prop} {x:ByteArray} {v:Value} (h:DR w ow (.str x) v):v=.string x:=by cases h;rfl
theorem Qs3 {f:FuncId} (can:Callable P f)
  (hc:∀(bk o c:Nat) (xs:List ByteArray) (sep:ByteArray) (w:World),(∀(j:Nat) x,xs[j]? =some x->w.cell? ⟨bk,o+j,none⟩=some (.string x))->bk<w.heap.size->xs.length<=140737488355328->xs.length<=c->
   (Lib.join (xs.map (·.data.toList)) sep.data.toList).length<=140737488355328->
   Calls P f #[.slice (some ⟨bk,o,none⟩) xs.length c,.string sep] w fun e w'=>e=.returned (.string ⟨(Lib.join (xs.map (·.data.toList)) sep.data.toList).toArray⟩)∧Below w.heap.size w w')
  (h0:∀(a:Option Addr) (c:Nat) (sep:ByteArray) (w:World),Calls P f #[.slice a 0 c,.string sep] w fun e w'=>e=.returned (.string ⟨#[]⟩)∧w'=w)
  {xs:List ByteArray} {sep:ByteArray} (hN:xs.length<=140737488355328) (hlen:(QkD xs sep).size<=140737488355328):PureC P f [.d (slD Qi xs),.d (.str sep)] (.d (.str (QkD xs sep))) []:=by
 refine⟨can,rfl,by simp,.nil,fun id h=>by simp[V.mentions] at h,fun w vals ρ0 hv ht=>?_⟩;obtain⟨v1,v2⟩:=hv;have hvals:∃v,vals=#[v,.string sep]∧VR w (fun _=>False) ρ0 (.d (slD Qi xs)) v:=by
  refine⟨vals.getD 0 undef,?_,v2 0 _ rfl⟩
  apply Y1d
  ·simpa using v1
  ·intro i hi hi';rcases i with _|_|i
   ·simp[Y7,hi]
   ·have:=(v2 1 _ rfl).str_inv;simpa[Y7,hi] using this
   ·simp at hi';omega
 obtain⟨v,rfl,hv⟩:=hvals;have hlen':(Lib.join (xs.map (·.data.toList)) sep.data.toList).length<=140737488355328:=by simpa[QkD,ByteArray.size] using hlen
 have fin:∀ {w':World} {e:Ending},Below w.heap.size w w'->e=Ending.returned (.string (QkD xs sep))->∃v ρ,e=.returned v∧Pure w w'∧VR w' (fun b=>b<w.heap.size) ρ (.d (.str (QkD xs sep))) v∧
   (∀b∈([]:List Nb),BR w' (fun b=>b<w.heap.size) ρ b.id (.arr b.t b.sz b.n b.row))∧(∀x∈([]:List Nb),∀y∈([]:List Nb),(ρ x.id).ph=false->(ρ y.id).ph=false->(ρ x.id).b=(ρ y.id).b->x.id=y.id)∧(∀x∈([]:List Nb),(ρ x.id).ph=false->w.heap.size<=(ρ x.id).b):=
  fun hB he=>⟨_,ρ0,he,Below.pure hB,.d .str,by simp,by simp,by simp⟩
 have empty:∀(a:Option Addr) (c:Nat),xs.length=0->Calls P f #[.slice a xs.length c,.string sep] w fun e w'=>∃v ρ,e=.returned v∧Pure w w'∧VR w' (fun b=>b<w.heap.size) ρ (.d (.str (QkD xs sep))) v∧
   (∀b∈([]:List Nb),BR w' (fun b=>b<w.heap.size) ρ b.id (.arr b.t b.sz b.n b.row))∧(∀x∈([]:List Nb),∀y∈([]:List Nb),(ρ x.id).ph=false->(ρ y.id).ph=false->(ρ x.id).b=(ρ y.id).b->x.id=y.id)∧(∀x∈([]:List Nb),(ρ x.id).ph=false->w.heap.size<=(ρ x.id).b):=fun a c hn=>by
  have hx:xs=[]:=YL hn;subst hx;refine Calls.mono (h0 a c sep w) ?_;rintro e w' ⟨rfl,rfl⟩;exact fin (Below.refl _ _) (by simp[QkD,Lib.join_nil])
 cases hv with
 |d hd=>
  cases hd with
  |sl0 hn=>have:=empty ‹_› ‹_› hn;rw[hn] at this;exact this
  |sl vals ho hb hl hcell hval hcap=>
   rename_i b o c sz
   by_cases hn:xs.length=0
   ·exact empty _ _ hn
   have hsz:sz=1:=by have:=hl 0 (by omega);simpa[rows] using this.symm
   subst hsz;refine Calls.mono (hc b o c xs sep w (fun j x hj=>?_) hb hN hcap hlen') ?_
   ·have hj':j<xs.length:=(Ya.1 hj).1;have hr:(rows Qi xs j)[0]? =some (.str x):=by
     simp only[rows,Qi,Y0,hj];rfl
    have h1:=hcell j 0 _ hj' hr;have h2:=hval j 0 _ hj' hr;rw[show o+j=o+j*1+0 by omega,h1];exact congrArg some (QCb h2)
   ·rintro e w' ⟨rfl,hB⟩;exact fin hB rfl
end Go.Ab
namespace Go.Ab
open Go.RowKit
variable {P:Program}
def Qul (s sep:ByteArray):ByteArray×ByteArray×Bool:=(⟨(Lib.cut s.data.toList sep.data.toList).1.toArray⟩,⟨(Lib.cut s.data.toList sep.data.toList).2.1.toArray⟩,(Lib.cut s.data.toList sep.data.toList).2.2)
noncomputable def QmG (s sep:ByteArray):List ByteArray:=Lib.splitB sep 0 (Lib.countB s sep) s
theorem Qun {w:World} {ow:Nat->Prop} {ρ:Env} {a:ByteArray} {vals:Array Value} (h:Qhq w ow ρ [.d (.str a)] vals):vals=#[.string a]:=by
 have⟨J,N⟩:=h
 apply Y1d
 ·simpa using J
 ·intro i hi I;have:i=0:=by simp at I;exact I
  subst this;have:=(N 0 _ rfl).str_inv;simpa[Y7,hi] using this
theorem QpY {w:World} {ow:Nat->Prop} {ρ:Env} {a b:ByteArray} {vals:Array Value} (h:Qhq w ow ρ [.d (.str a),.d (.str b)] vals):vals=#[.string a,.string b]:=by
 have⟨N,J⟩:=h
 apply Y1d
 ·simpa using N
 ·intro i hi I;rcases i with _|_|i
  ·have:=(J 0 _ rfl).str_inv;simpa[Y7,hi] using this
  ·have:=(J 1 _ rfl).str_inv;simpa[Y7,hi] using this
  ·simp at I;omega
theorem QhX {f:FuncId} {args:List V} {res:V} {v:Value} (can:Callable P f) (flat:Qcv res=true) (ids:∀id,res.mentions id=false) (I:∀w ow ρ,VR w ow ρ res v)
  (h:∀w vals ρ0,Qhq w (fun _=>False) ρ0 args vals->TabB P (fun b=>b<w.heap.size) w->Calls P f vals w fun e w'=>e=.returned v∧Pure w w'):PureC P f args res []:=
 ⟨can,flat,by simp,.nil,fun id h=>(by rw[ids id] at h;cases h),fun w vals ρ0 hv J=>(h w vals ρ0 hv J).mono fun e w' ⟨N,hp⟩=>⟨v,ρ0,N,hp,I _ _ _,by simp,by simp,by simp⟩⟩
theorem QtL (w:World) (n:Nat):Pure w (w.drewN n):=⟨rfl,rfl,rfl,by simp,fun b hb=>by simp⟩
theorem Qum {f : FuncId} {g : Nat} (can : Callable P f) (J : P.globalNamed (varNames.getD 0 "") = some g)
  (hc:∀(s sep:ByteArray) (m:Int) (w:World),s.size<4294967281->w.cell? ⟨g,0,none⟩=some (.int .i64 m)->
   Calls P f #[.string s,.string sep] w fun e w'=>e=.returned (.tuple #[.string ⟨(Lib.cut s.data.toList sep.data.toList).1.toArray⟩,.string ⟨(Lib.cut s.data.toList sep.data.toList).2.1.toArray⟩,.bool (Lib.cut s.data.toList sep.data.toList).2.2])∧∃n,w'=w.drewN n)
  {s sep:ByteArray} (hs:s.size<4294967281):PureC P f [.d (.str s),.d (.str sep)] (.tup [.d (.str (Qul s sep).1),.d (.str (Qul s sep).2.1),.d (.bool (Qul s sep).2.2)]) []:=by
 refine QhX (v:=.tuple #[.string (Qul s sep).1,.string (Qul s sep).2.1,.bool (Qul s sep).2.2]) can rfl (fun _=>rfl) (fun w ow ρ=>.tup rfl fun j v I=>?_) fun w vals ρ0 hv N=>?_
 ·rcases j with _|_|_|j
  ·simp at I;subst I;exact .d .str
  ·simp at I;subst I;exact .d .str
  ·simp at I;subst I;exact .d .bool
  ·simp at I
 ·rw[QpY hv];obtain⟨_,v,h1,m,rfl⟩:=N.2 0 _ g rfl J;refine(hc s sep m w hs h1).mono ?_;rintro e w' ⟨rfl,n,rfl⟩;exact⟨rfl,QtL w n⟩
theorem QqH {f : FuncId} {g : Nat} {t : TypeId} (can : Callable P f) (Y : P.globalNamed (varNames.getD 0 "") = some g)
  (hc:∀(s sep:ByteArray) (m:Int) (w:World),s.size<4294967281->w.cell? ⟨g,0,none⟩=some (.int .i64 m)->1<=sep.size->
   Calls P f #[.string s,.string sep] w fun e w'=>e=.returned (.slice (some ⟨w.heap.size,0,none⟩) (Lib.countB s sep+1) (Lib.countB s sep+1))∧w'=w.alloc (.cells ((Lib.splitB sep 0 (Lib.countB s sep) s).map Value.string).toArray t))
  {U:TypeId} {s sep:ByteArray} (hs:s.size<4294967281) (h1:1<=sep.size):PureC P f [.d (.str s),.d (.str sep)] (.osl 5001 0 (QmG s sep).length) [⟨5001,U,1,(QmG s sep).length,Go.Ab.rows Qi (QmG s sep)⟩]:=by
 have J:(QmG s sep).length=Lib.countB s sep+1:=Lib.splitB_all sep h1 0 _ s rfl;refine⟨can,rfl,?_,List.pairwise_singleton _ _,fun id h=>?_,fun w vals ρ0 hv ht=>?_⟩
 ·intro b hb i hi d I;simp at hb;subst hb;simp[Go.Ab.rows,Qi] at I;subst I;rfl
 ·simp[V.mentions] at h;exact⟨_,XF.2 rfl,h⟩
 rw[QpY hv];obtain⟨_,v,h2,m,rfl⟩:=ht.2 0 _ g rfl Y;refine(hc s sep m w hs h2 h1).mono ?_;rintro e w' ⟨rfl,rfl⟩;have hr:∀ow,BR (w.alloc (.cells ((Lib.splitB sep 0 (Lib.countB s sep) s).map Value.string).toArray t)) ow (ρ0.set 5001 ⟨w.heap.size,0,1,(QmG s sep).length,(QmG s sep).length,false⟩) 5001 (.arr U 1 (QmG s sep).length (Go.Ab.rows Qi (QmG s sep))):=fun ow=>by
  refine .arr ((QmG s sep).map Value.string).toArray t ?_ ?_ ?_ ?_ (fun i _=>rfl) ?_ ?_ fun i j d hi I=>?_
  ·rw[Env.set_same]
  ·rw[Env.set_same]
  ·rw[Env.set_same]
  ·rw[Env.set_same];exact Yh _
  ·rw[Env.set_same];exact heap_alloc_new w _
  ·rw[Env.set_same];simp
  ·rw[Env.set_same]
   cases j with
   |succ j=>simp[Go.Ab.rows,Qi] at I
   |zero=>
    simp only[Go.Ab.rows,Qi,XQ,Yc] at I;subst I;have e:(((QmG s sep).map Value.string).toArray).getD (0+i*1+0) undef=Value.string ((QmG s sep).getD i default):=by
     rw[Y7];simp[Y0,hi]
    rw[e];exact .str
 refine⟨_,ρ0.set 5001 ⟨w.heap.size,0,1,(QmG s sep).length,(QmG s sep).length,false⟩,rfl,Pure.alloc w _,?_,?_,?_,?_⟩
 ·have:=VR.osl (w:=w.alloc (.cells ((Lib.splitB sep 0 (Lib.countB s sep) s).map Value.string).toArray t)) (own:=fun b=>b<w.heap.size) (ρ:=ρ0.set 5001 ⟨w.heap.size,0,1,(QmG s sep).length,(QmG s sep).length,false⟩) (id:=5001) (off:=0) (len:=(QmG s sep).length) (by rw[Env.set_same]) (by rw[Env.set_same];simp) (by rw[Env.set_same];exact Yh _);rw[Env.set_same] at this;rw[<-J];simpa using this
 ·intro b hb;simp at hb;subst hb;exact hr _
 ·intro x N y O;simp at N O;subst N O;intros;rfl
 ·intro x N _;simp at N;subst N;rw[Env.set_same];exact Yh _
noncomputable def QAo (s:ByteArray):Int:=match Lib.atoiAll s.data.toList with
 | .ok v=>if v<0∨Qn4 v≠s then-1 else v
 |_=>-1
theorem Qpi {l:List UInt8} {v:Int} (h:Lib.atoiAll l=.ok v):-9223372036854775808<=v∧v<=9223372036854775807:=by
 unfold Lib.atoiAll at h;split at h
 ·cases h
 ·simp only at h;split at h
  ·cases h
  ·cases h
  ·split at h
   ·cases h
   ·split at h
    ·cases h
    ·cases h
     split<;>omega
theorem Qlu {w w':World} {k:Nat} {os:Array Obj} (h:Below w.heap.size w w'):Below w.heap.size w (Sort.grow (w'.drewN k) os):=
 ⟨h.os,h.tape,h.output,by have:=h.size;simp[Sort.grow];omega,fun b hb=>by
  have:=h.block b hb;have hs:=h.size;rw[<-this];have I:b<w'.heap.size:=by omega
  simp[Sort.grow,Array.getElem?_append,I]⟩
theorem QyU {v:Int} {s:ByteArray}:Qn4 v=s↔Lib.itoa v=s.toList:=by
 rw[Lib.toList_data s]
 constructor
 ·intro I;subst I;simp[Qn4]
 ·intro I;cases s;simp[Qn4] at*;rw[I]
theorem Qpj {w w':World} (J:(P.globalNamed QeA).isSome=true) (N:TabB P (fun b=>b<w.heap.size) w) (hB:Below w.heap.size w w'):w'.var? P QeA=some QAp:=by
 have⟨O,I⟩:=Option.isSome_iff_exists.1 J;exact((N.keep (B':=fun b=>b<w.heap.size) ⟨hB.os,hB.tape,hB.output,hB.size,hB.block⟩ (fun _ h=>h)).1 O I).2
end Go.Ab
namespace Go.Ab
open Go.RowKit
variable {P:Program}
theorem QgV {w:World} {J:String} {d:DataW Unit}:∀ {l:List (String×DataW Unit)} {ps:List MemPlace},DataW.LaidVars P w l ps->(J,d)∈l->
  ∃g t cs I p,P.globalNamed J=some g∧(P.globals[g]?).map (·.type)=some t∧w.var? P J=some cs∧DataW.trod (fun _=>()) P w 0 (fun _=>true) false I t cs.toList=some (d,p)
 |[],_,_,h=>by cases h
 |(n,e)::r,ps,hl,h=>by
  obtain⟨g,t,cs,I,p,q,e1,Y,U,N,O,rfl⟩:=hl;rcases Yi.1 h with h|h
  ·cases h
   exact⟨g,t,cs,I,p,e1,Y,U,N⟩
  ·exact QgV O h
theorem Qzz {W:World} {Y:String} (e:Y=QeA) {g n:Nat} {t O:TypeId} (J:P.globalNamed QeA=some g) (I:(P.globals[g]?).map (·.type)=some t) (ht:P.underlying t=some (.array n O)) (he:P.underlying O=some (.int .u64)) (N:P.cellsOf O=1) (U:P.cellsOf t=n)
  {l:List (String×DataW Unit)} {d:DataW Unit} (hm:(Y,d)∈l) (hd:d=Lib.tabData .u64 Lib.pow10Tab) (h:laidMet P l W):W.var? P QeA=some QAp:=by
 subst e hd;have⟨ps,h1,_,_⟩:=h;have⟨g',t',cs,fuel,p,e1,e2,e3,e4⟩:=QgV h1 hm;obtain rfl:=YC (J.symm.trans e1);obtain rfl:=YC (I.symm.trans e2);have:=Lib.cells_of_tab ht he N U e4;rw[e3]
 congr 1
 apply Xt
 rw[this]
 kernel_rfl
theorem QpZ {w:World} {g:Nat} {t:TypeId} {zero:Array Value} (h:w.ShapedOpen P) (hg:g<P.globals.size)
  (h0:((begin P (fun _ _=>0) default).world.heap[g]?).bind Obj.row? =some (zero,t)) (hz:zero.size=1)
  (hb:P.buildable t=true) (hc:P.cellTypes P.depth t=some [t]) (Y:P.underlying t=some (.int .i64)):∃m,w.cell? ⟨g,0,none⟩=some (.int .i64 m):=by
 have⟨cs,hh,hs,hr⟩:=h.1 g zero t hg h0;have⟨ts,O,_,N⟩:=hr hb;rw[hc] at O
 cases O
 have h1:0<cs.size:=by omega
 have⟨u,U,I⟩:=N 0 cs[0] (by simp[h1]);have:u=t:=by simpa using U.symm
 subst this;have J:w.cell? ⟨g,0,none⟩=some cs[0]:=by simp[World.cell?,hh,h1]
 rw[J];unfold Cell.ok at I;rw[Y] at I
 cases hv:cs[0]<;>rw[hv] at I<;>first|(obtain⟨rfl,_⟩:=I;exact⟨_,rfl⟩)|simp at I
theorem Qys {W:World} {nm name:String} {g:Nat} {t:TypeId} {ms:Array (String×TypeId)} (U:P.globalNamed nm=some g) (N:(P.globals[g]?).map (·.type)=some t) (hi:P.underlying t=some (.interface ms))
  {l:List (String×DataW Unit)} {d:DataW Unit} (hm:(nm,.iface name d)∈l) (h:laidMet P l W):∃te pe,W.cell? ⟨g,0,none⟩=some (.iface te pe):=by
 have⟨ps,h1,_,_⟩:=h;have⟨g',t',cs,O,p,e1,e2,I,J⟩:=QgV h1 hm;obtain rfl:=YC (U.symm.trans e1);obtain rfl:=YC (N.symm.trans e2);have key:∃u v,cs.toList=[.iface u v]:=by
  cases O with
  |zero=>simp[DataW.trod] at J
  |succ f=>
   unfold DataW.trod at J;rw[hi] at J;split at J<;>first|exact⟨_,_,by assumption⟩|(simp at J;done)|(rename_i a b;simp at a;done)|skip
   all_goals (first|exact⟨_,_,rfl⟩|(rename_i a;cases a)|cases J)
 have⟨u,v,e5⟩:=key;have e6:cs=#[.iface u v]:=Xt e5;subst e6;refine⟨u,v,?_⟩;unfold World.var? at I;rw[e1] at I;simp only[Y17] at I
 cases Y:W.heap[g]? with
 |none=>rw[Y] at I;simp at I
 |some o=>
  rw[Y] at I
  cases o<;>first|(simp at I;subst I;simp[World.cell?,Y];done)|simp at I
theorem Qvd {a:Assume} {C:Checked} {os:Os} {f:FuncId} {fn:Func} {s:ChangeSpec} {H:Type} {enc:TypeId×Value->H} {fu:Nat} {tb:Tb} {rt:TypeId} {X:World->Array Value->Prop} (hT:TOk C.prog tb)
  (hX:∀(w w':World) (args:Array Value),w.heap=w'.heap->X w args->X w' args) (tab:∀W args,X W args->W.var? C.prog QeA=some QAp) (a6:∀W args,X W args->W.ShapedOpen C.prog->∀i nm g,varNames[i]? =some nm->C.prog.globalNamed nm=some g->∃v,W.cell? ⟨g,0,none⟩=some v∧QyZ i v)
  (own:ownKnob C.prog.godebug=none) (I:os.Started) (N:C.prog.inits.idxOf? f=none) (b0:C.prog.funcs[f]? =some fn)
  (J:∃(w:World) (tape:Tape) (i:Input),w.os=os∧(w.forCall tape i).Shaped C.prog∧i.vars=[]∧Input.okWide C.prog (w.forCall tape i) .any w.heap.size f i∧
   ((s.pre enc C.prog fn [] false (w.forCall tape i).memory i.args∧X (w.forCall tape i).memory i.args)∧sizedMet enc C.prog fn (OpenSpec.ofChange s) false (w.forCall tape i).memory i.args)∧a.holds C.prog (lone (Frame.enter C.prog f i.args .normal) [] (w.forCall tape i)))
  (hl:laidOutB C.prog=true) (Y:fn.params.toList.all (fun t=>C.prog.readableRec t&&decide (t<C.prog.types.size))=true) (b1:fn.params.toList.all (QuQ tb fu)=true) (a2:s.vars=[])
  (a7:fn.resultTypes=#[rt]) (U:C.prog.underlying rt=some .bool)
  (a1:∀ds:List (DataW H),ds.length=fn.params.toList.length->s.fn H ds={results:=[.lit (.bool true)],args:=ds})
  (b2:∀a8,QfV tb fu fn.params.toList a8->PureC C.prog f (Qow tb fn.params.toList a8) (.d (.bool true)) []):
  ReturnsInHanded a C os f .any (fun w args=>(s.pre enc C.prog fn [] false w args∧X w args)∧sizedMet enc C.prog fn (OpenSpec.ofChange s) false w args) (s.post enc C.prog fn false true false false):=
 QjV hX own I N b0 J fun W base args ds gs O a5 hW _ b3 hx a9 _=>QwS hT hl Y b1 a2 a7 U a1 b2 W base args ds gs O a5 hW b3 ⟨fun g hg=>by
  have hv:=tab W args hx;refine⟨?_,hv⟩;unfold World.var? at hv;rw[hg] at hv
  cases hh:W.heap[g]? with
  |none=>simp[hh] at hv
  |some o=>exact(Ys.1 hh).1,fun i nm g hi hg=>by
  have⟨v,h1,h2⟩:=a6 W args hx a9 i nm g hi hg;exact⟨Quq h1,v,h1,h2⟩⟩
end Go.Ab
