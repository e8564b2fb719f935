/-
  What an abstract state says of a real one, and the operations that read: a part of the frame in which a given row's proof walks the program; no condition.
-/
import Derived.WalkKit
import Derived.Deep.MidRow
set_option linter.all false
namespace Go.Ab
abbrev Y0:=@if_neg
abbrev Y1:=@List.getD_eq_getElem?_getD
abbrev Y2:=@if_pos
abbrev Y3:=@Int.toNat_natCast
abbrev Y4:=@Bool.and_eq_true
abbrev Y5:=@Nat.eq_of_beq_eq_true
abbrev Y6:=@Array.getD_eq_getD_getElem?
abbrev Y7:=@List.getElem?_eq_getElem
abbrev Y8:=@List.getElem?_eq_some_iff
abbrev Y9:=@Option.some.injEq
abbrev Ya:=@List.length_map
abbrev Yb:=@List.all_eq_true
abbrev Yc:=@Option.map_eq_some_iff
abbrev Yd:=@decide_eq_true
abbrev Ye:=@List.length_cons
abbrev Yf:=@Nat.mul_le_mul_right
abbrev Yg:=@Nat.zero_add
abbrev Yh:=@List.mem_cons
abbrev Yi:=@Nat.le_refl
abbrev Yj:=@Nat.add_mul
abbrev Yk:=@List.length_append
abbrev Yl:=@of_decide_eq_true
abbrev Ym:=@decide_eq_true_eq
abbrev Yn:=@List.length_take
abbrev Yo:=@List.mem_append
abbrev Yp:=@List.mem_cons_of_mem
abbrev Yq:=@Bool.true_and
abbrev Yr:=@Array.getElem?_eq_some_iff
abbrev Ys:=@Nat.le_of_ble_eq_true
abbrev Yt:=@Nat.zero_le
abbrev Yu:=@Bool.false_eq_true
abbrev Yv:=@List.eq_nil_of_length_eq_zero
abbrev Yw:=@Option.some.inj
abbrev Yx:=@List.length_nil
abbrev Yy:=@List.getElem?_append_left
abbrev Yz:=@List.getElem?_map
abbrev YA:=@List.nil_append
abbrev YB:=@List.mem_filter
abbrev YC:=@List.map_cons
abbrev YD:=@And.intro
abbrev YE:=@Bool.eq_iff_iff
abbrev YF:=@Bool.not_eq_true'
abbrev YG:=@if_true
abbrev YH:=@Nat.lt_of_lt_of_le
abbrev YI:=@List.mem_map
abbrev YJ:=@Bool.or_eq_true
abbrev YK:=@List.map_congr_left
abbrev YL:=@Bool.false_or
abbrev YM:=@Bool.false_and
abbrev YN:=@List.any_eq_true
abbrev YO:=@Array.getElem?_setIfInBounds
abbrev YP:=@decide_eq_false
abbrev YQ:=@List.getElem?_take
abbrev YR:=@List.getElem?_drop
abbrev YS:=@List.pairwise_cons
abbrev YT:=@List.getD_cons_zero
abbrev YU:=@Ne.symm
abbrev YV:=@Nat.lt_or_ge
abbrev YW:=@List.filter_cons
abbrev YX:=@List.getElem?_append_right
abbrev YY:=@Prod.mk.injEq
abbrev YZ:=@List.take_length
abbrev X0:=@Nat.add_zero
abbrev X1:=@List.mem_of_getElem?
abbrev X2:=@List.range_succ
abbrev X3:=@Option.getD_some
abbrev X4:=@beq_iff_eq
abbrev X5:=@List.pairwise_map
abbrev X6:=@if_false
abbrev X7:=@Int.le_refl
abbrev X8:=@List.pairwise_iff_getElem
abbrev X9:=@Nat.eq_zero_or_pos
abbrev Xa:=@List.mem_singleton
abbrev Xb:=@List.filter_append
abbrev Xc:=@Array.ext'
abbrev Xd:=@List.getElem?_eq_none
abbrev Xe:=@List.length_filter_le
abbrev Xf:=@Bool.eq_false_iff
abbrev Xg:=@List.mem_of_mem_take
abbrev Xh:=@Nat.min_eq_left
abbrev Xi:=@Nat.add_assoc
abbrev Xj:=@Bool.and_true
abbrev Xk:=@List.getElem_mem
abbrev Xl:=@decide_eq_decide
abbrev Xm:=@Array.getElem?_eq_getElem
abbrev Xn:=@List.getElem_of_mem
abbrev Xo:=@List.countP_le_length
abbrev Xp:=@Option.none_or
abbrev Xq:=@Option.map_some
abbrev Xr:=@List.append_nil
abbrev Xs:=@Nat.pow_le_pow_right
abbrev Xt:=@List.take_succ
abbrev Xu:=@List.append_assoc
abbrev Xv:=@Nat.mul_comm
abbrev Xw:=@Array.getElem?_append_left
abbrev Xx:=@List.map_map
abbrev Xy:=@List.takeWhile_sublist
abbrev Xz:=@List.takeWhile_cons
abbrev XA:=@List.cons_append
abbrev XB:=@List.all_cons
abbrev XC:=@Bool.eq_false_or_eq_true
abbrev XD:=@Bool.or_eq_false_iff
abbrev XE:=@List.pairwise_append
abbrev XF:=@Bool.and_assoc
abbrev XG:=@List.getElem?_cons_zero
abbrev XH:=@List.size_toArray
abbrev XI:=@List.take_of_length_le
abbrev XJ:=@Array.getElem?_eq_none
abbrev XK:=@List.Sublist.length_le
abbrev XL:=@List.map_toArray
abbrev XM:=@Bool.not_false
abbrev XN:=@Classical.byContradiction
abbrev XO:=@cond_true
abbrev XP:=@List.any_eq_false
abbrev XQ:=@Nat.blt_eq
abbrev XR:=@List.takeWhile_append_dropWhile
abbrev XS:=@List.getElem?_cons_succ
abbrev XT:=@Bool.and_false
abbrev XU:=@Bool.true_or
abbrev XV:=@List.any_map
abbrev XW:=@List.length_set
abbrev XX:=@List.mem_append_right
abbrev XY:=@ByteArray.size_append
abbrev XZ:=@Eq.symm
abbrev Y00:=@List.take_take
abbrev Y01:=@List.mem_range
abbrev Y02:=@Nat.div_lt_of_lt_mul
abbrev Y03:=@List.mem_append_left
abbrev Y04:=@List.drop_zero
abbrev Y05:=@Nat.le_trans
abbrev Y06:=@List.map_nil
abbrev Y07:=@List.length_drop
abbrev Y08:=@List.drop_eq_getElem_cons
abbrev Y09:=@Bool.not_true
abbrev Y0a:=@Int.tmod_lt_of_pos
abbrev Y0b:=@Nat.one_mul
abbrev Y0c:=@Int.toNat_zero
abbrev Y0d:=@List.ext_getElem?
abbrev Y0e:=@List.Sublist.refl
abbrev Y0f:=@List.length_range
abbrev Y0g:=@Nat.add_comm
abbrev Y0h:=@List.getElem?_set
abbrev Y0i:=@Option.bind_some
abbrev Y0j:=@Nat.mod_eq_of_lt
abbrev Y0k:=@Nat.div_add_mod'
abbrev Y0l:=@Nat.le_of_not_lt
abbrev Y0m:=@Bool.or_false
abbrev Y0n:=@List.mem_iff_getElem
abbrev Y0o:=@List.foldl_cons
abbrev Y0p:=@Int.tmod_nonneg
abbrev Y0q:=@Bool.or_true
abbrev Y0r:=@Nat.mul_zero
abbrev Y0s:=@Nat.pow_succ
abbrev Y0t:=@Bool.not_not
abbrev Y0u:=@Bool.and_self
inductive Zn where
 |ptr|func|iface|map
 deriving DecidableEq
inductive D where
 |int (k:IntKind) (n:Int)
 |bool (b:Bool)
 |str (s:ByteArray)
 |nil
 |zn (z:Zn)
 |sl (n:Nat) (row:Nat→List D)
 |fn (f:FuncId) (caps:List (List D))
inductive V where
 |any
 |d (x:D)
 |ref (id row off:Nat)
 |osl (id off len:Nat)
 |rp (cells:List D)
 |agg (vs:List V)
 |tup (vs:List V)
 |fn (f:FuncId) (cap:List V)
inductive Blk where
 |box (t:TypeId) (cells:List V)
 |arr (t:TypeId) (sz n:Nat) (row:Nat→List D)
def bcl (t:Nat):Nat:=match Nat.blt t 1000000 with
 |true=>0
 |false=>t/1000000
def Blk.bx:Blk->Bool
 | .box ..=>true
 | .arr ..=>false
structure Gd where
 t:Nat
 key:Nat
 want:Bool
 v:V
structure Fr where
 tmps:List (Nat×V)
 gds:List Gd
structure St where
 base:Nat
 nt:Nat
 tmps:List (Nat×V)
 gds:List Gd
 blks:List (Nat×Blk)
 frames:List Fr
inductive TK where
 |bool|int (k:IntKind)|str|ptr (e:TypeId)|slice (e:TypeId)|struct (fs:List (TypeId×Nat))|array (n:Nat) (e:TypeId)
 |map (k e:TypeId)|other
structure TI where
 kind:TK
 size:Nat
 bytes:Nat
 zero:List D
 eq:Bool
inductive Tb where
 |leaf
 |node (k:Nat) (ti:TI) (l r:Tb)
def Tb.find:Tb->Nat->Option TI
 | .leaf,_=>none
 | .node k ti l r,n=>match Nat.beq n k with
  |true=>some ti
  |false=>match Nat.blt n k with
   |true=>l.find n
   |false=>r.find n
def Qi {α:Type}:List (Nat×α)->Nat->Option α
 |[],_=>none
 |(u,v)::r,t=>match Nat.beq u t with
  |true=>some v
  |false=>Qi r t
def Qht:List Gd->Nat->Option Gd
 |[],_=>none
 |g::r,t=>match Nat.beq g.t t with
  |true=>some g
  |false=>Qht r t
def Qwj (ts:List (Nat×V)) (t:Nat):V:=match Qi ts t with
 |some v=>v
 |none=>.any
def Qmj:Value->V
 | .int k n=>.d (.int k n)
 | .bool b=>.d (.bool b)
 | .string s=>.d (.str s)
 | .slice none 0 0=>.d .nil
 | .pointer none=>.d (.zn .ptr)
 | .nilFunc=>.d (.zn .func)
 | .nilIface=>.d (.zn .iface)
 | .map none=>.d (.zn .map)
 |_=>.any
def QkS:Value->V
 | .agg cs=>(match cs.toList.all Value.oneCell' with
  |true=>.agg (cs.toList.map Qmj)
  |false=>.any)
 |v=>Qmj v
def Qy0:List (Nat×Bool)->Nat->Bool->Bool
 |[],_,_=>false
 |(k,w)::r,key,want=>match Nat.beq k key,w==want with
  |true,true=>true
  |_,_=>Qy0 r key want
def St.ev (S:St) (al:List (Nat×Bool)):Operand->V
 | .tmp t=>(match Qht S.gds t with
  |some g=>(match Qy0 al g.key g.want with
   |true=>g.v
   |false=>.any)
  |none=>Qwj S.tmps t)
 | .const v=>QkS v
 | .func f=>.fn f []
 | .global _=>.any
def V.cells:V->List V
 | .agg vs=>vs
 |v=>[v]
mutual
def V.mentions (id:Nat):V->Bool
 | .ref i _ _=>Nat.beq i id
 | .osl i _ _=>Nat.beq i id
 | .agg vs=>QU id vs
 | .tup vs=>QU id vs
 | .fn _ vs=>QU id vs
 |_=>false
def QU (id:Nat):List V->Bool
 |[]=>false
 |v::r=>match v.mentions id with
  |true=>true
  |false=>QU id r
end
def Jv (id:Nat):List (Nat×V)->Bool
 |[]=>false
 |(_,v)::r=>match v.mentions id with
  |true=>true
  |false=>Jv id r
def Jw (id:Nat):List Gd->Bool
 |[]=>false
 |g::r=>match g.v.mentions id with
  |true=>true
  |false=>Jw id r
def Blk.mentions (id:Nat):Blk->Bool
 | .box _ cs=>QU id cs
 | .arr ..=>false
def Q4 (id:Nat):List (Nat×Blk)->Bool
 |[]=>false
 |(i,b)::r=>match Nat.beq i id with
  |true=>true
  |false=>match b.mentions id with
   |true=>true
   |false=>Q4 id r
def QcM (id:Nat):List Fr->Bool
 |[]=>false
 |f::r=>match Jv id f.tmps with
  |true=>true
  |false=>match Jw id f.gds with
   |true=>true
   |false=>QcM id r
def St.mentions (S:St) (id:Nat):Bool:=match Jv id S.tmps with
 |true=>true
 |false=>match Jw id S.gds with
  |true=>true
  |false=>match Q4 id S.blks with
   |true=>true
   |false=>QcM id S.frames
mutual
def V.kill (id:Nat):V->V
 | .ref i r o=>match Nat.beq i id with
  |true=>.any
  |false=>.ref i r o
 | .osl i o l=>match Nat.beq i id with
  |true=>.any
  |false=>.osl i o l
 | .agg vs=>.agg (Qd3 id vs)
 | .tup vs=>.tup (Qd3 id vs)
 | .fn f vs=>.fn f (Qd3 id vs)
 | .any=>.any
 | .d x=>.d x
 | .rp cs=>.rp cs
def Qd3 (id:Nat):List V->List V
 |[]=>[]
 |v::r=>v.kill id::Qd3 id r
end
def Qgl (id:Nat) (ts:List (Nat×V)):List (Nat×V):=ts.map fun p=>(p.1,p.2.kill id)
def Qhu (id:Nat) (gs:List Gd):List Gd:=gs.map fun g=>⟨g.t,g.key,g.want,g.v.kill id⟩
def Blk.kill (id:Nat):Blk->Blk
 | .box t cs=>.box t (Qd3 id cs)
 | .arr t sz n row=>.arr t sz n row
theorem Blk.kill_bx (id:Nat) (b:Blk):(b.kill id).bx=b.bx:=by cases b<;>rfl
def QcX (id:Nat):List (Nat×Blk)->List (Nat×Blk)
 |[]=>[]
 |(i,b)::r=>match Nat.beq i id with
  |true=>QcX id r
  |false=>(i,b.kill id)::QcX id r
def Qic (id:Nat) (fs:List Fr):List Fr:=fs.map fun f=>⟨Qgl id f.tmps,Qhu id f.gds⟩
def QfQ:List (Nat×Blk)->Nat->Blk->List (Nat×Blk)
 |[],_,_=>[]
 |(u,v)::r,t,x=>match Nat.beq u t with
  |true=>(t,x)::r
  |false=>(u,v)::QfQ r t x
structure Stuck (why:String):Prop where
 no:False
def QqD:D->(D->Prop)->Prop
 | .int k n,K=>K (.int k n)
 | .bool b,K=>K (.bool b)
 | .str s,K=>K (.str s)
 | .nil,K=>K .nil
 | .zn z,K=>K (.zn z)
 | .sl n row,K=>K (.sl n row)
 | .fn f caps,K=>K (.fn f caps)
noncomputable def QkT (l:List D):(List D->Prop)->Prop:=List.rec (motive:=fun _=>(List D->Prop)->Prop) (fun K=>K []) (fun x _ J K=>QqD x fun I=>J fun G=>K (I::G)) l
noncomputable def QbH (f:V->(V->Prop)->Prop) (l:List V):(List V->Prop)->Prop:=List.rec (motive:=fun _=>(List V->Prop)->Prop) (fun K=>K []) (fun v _ I K=>f v fun v'=>I fun G=>K (v'::G)) l
noncomputable def QpM (n:Nat):V->(V->Prop)->Prop:=Nat.rec (motive:=fun _=>V->(V->Prop)->Prop) (fun v K=>K v) (fun _ J v K=>match v with
 | .any=>K .any
 | .d x=>QqD x fun O=>K (.d O)
 | .ref i r o=>K (.ref i r o)
 | .osl i o l=>K (.osl i o l)
 | .rp cs=>QkT cs fun I=>K (.rp I)
 | .agg vs=>QbH J vs fun G=>K (.agg G)
 | .tup vs=>QbH J vs fun G=>K (.tup G)
 | .fn f vs=>QbH J vs fun G=>K (.fn f G)) n
noncomputable def Qal (v:V) (K:V->Prop):Prop:=QpM 4 v K
noncomputable def Qaq (l:List V) (K:List V->Prop):Prop:=QbH (QpM 4) l K
noncomputable def QeW (l:List (Nat×V)):(List (Nat×V)->Prop)->Prop:=List.rec (motive:=fun _=>(List (Nat×V)->Prop)->Prop) (fun K=>K []) (fun p _ I K=>match p with
 |(t,v)=>Qal v fun v'=>I fun G=>K ((t,v')::G)) l
noncomputable def QfR (l:List Gd):(List Gd->Prop)->Prop:=List.rec (motive:=fun _=>(List Gd->Prop)->Prop) (fun K=>K []) (fun g _ I K=>match g with
 |⟨t,k,w,v⟩=>Qal v fun v'=>I fun G=>K (⟨t,k,w,v'⟩::G)) l
noncomputable def Qay (l:List (Nat×Blk)):(List (Nat×Blk)->Prop)->Prop:=List.rec (motive:=fun _=>(List (Nat×Blk)->Prop)->Prop) (fun K=>K []) (fun p _ J K=>match p with
 |(i,.box t cs)=>Qaq cs fun G=>J fun I=>K ((i,.box t G)::I)
 |(i,.arr t sz n row)=>J fun I=>K ((i,.arr t sz n row)::I)) l
noncomputable def Qid (l:List Fr):(List Fr->Prop)->Prop:=List.rec (motive:=fun _=>(List Fr->Prop)->Prop) (fun K=>K []) (fun f _ O K=>match f with
 |⟨ts,gs⟩=>QeW ts fun G=>QfR gs fun I=>O fun J=>K (⟨G,I⟩::J)) l
theorem Qoo (x:D) (K:D->Prop):QqD x K=K x:=by cases x<;>rfl
theorem Qd9 (l:List D):∀K:List D->Prop,QkT l K=K l:=by
 induction l with
 |nil=>intro K;rfl
 |cons x r J=>intro K;show QqD x (fun I=>QkT r fun G=>K (I::G))=_;rw[Qoo,J]
theorem Qfn {f:V->(V->Prop)->Prop} (G:∀v K,f v K=K v) (l:List V):∀K:List V->Prop,QbH f l K=K l:=by
 induction l with
 |nil=>intro K;rfl
 |cons x r O=>intro K;show f x (fun J=>QbH f r fun I=>K (J::I))=_;rw[G,O]
theorem QeX:∀(n:Nat) (v:V) (K:V->Prop),QpM n v K=K v
 |0,_,_=>rfl
 |n+1,v,K=>by
  cases v with
  |any=>rfl
  |ref=>rfl
  |osl=>rfl
  |d x=>exact Qoo x _
  |rp cs=>exact Qd9 cs _
  |agg vs=>exact Qfn (QeX n) vs _
  |tup vs=>exact Qfn (QeX n) vs _
  |fn f vs=>exact Qfn (QeX n) vs _
theorem QC (v:V) (K:V->Prop):Qal v K=K v:=QeX 4 v K
theorem Za (l:List V) (K:List V->Prop):Qaq l K=K l:=Qfn (QeX 4) l K
theorem QbX (l:List (Nat×V)):∀K:List (Nat×V)->Prop,QeW l K=K l:=by
 induction l with
 |nil=>intro K;rfl
 |cons x r I=>intro K;have⟨t,v⟩:=x;show Qal v (fun v'=>QeW r fun G=>K ((t,v')::G))=_;rw[QC,I]
theorem QcN (l:List Gd):∀K:List Gd->Prop,QfR l K=K l:=by
 induction l with
 |nil=>intro K;rfl
 |cons x r I=>intro K;have⟨t,k,w,v⟩:=x;show Qal v (fun v'=>QfR r fun G=>K (⟨t,k,w,v'⟩::G))=_;rw[QC,I]
theorem ZV (l:List (Nat×Blk)):∀K:List (Nat×Blk)->Prop,Qay l K=K l:=by
 induction l with
 |nil=>intro K;rfl
 |cons x r J=>
  intro K;have⟨t,b⟩:=x
  cases b with
  |box I cs=>show Qaq cs (fun G=>Qay r fun O=>K ((t,.box I G)::O))=_;rw[Za,J]
  |arr I sz n row=>exact J _
theorem Qej (l:List Fr):∀K:List Fr->Prop,Qid l K=K l:=by
 induction l with
 |nil=>intro K;rfl
 |cons x r O=>intro K;have⟨t,b⟩:=x;show QeW t (fun G=>QfR b fun I=>Qid r fun J=>K (⟨G,I⟩::J))=_;rw[QbX,QcN,O]
def QcO {α:Type}:List α->Nat->List α->List α
 |l,_,[]=>l
 |[],_,_=>[]
 |_::r,0,x::xs=>x::QcO r 0 xs
 |a::r,n+1,xs=>a::QcO r n xs
def QrI:List V->Option (List D)
 |[]=>some []
 | .d x::r=>(match QrI r with
  |some xs=>some (x::xs)
  |none=>none)
 |_=>none
def TK.agg:TK->Bool
 | .struct _=>true
 | .array _ _=>true
 |_=>false
def Qhv (agg:Bool) (s:Nat) (cs:List V):V:=match agg with
 |true=>.agg (cs.take s)
 |false=>(match cs with
  |v::_=>v
  |[]=>.any)
def QdN (ti:TI) (blk:Nat->Option Blk) (p:V) (K:V->Prop):Prop:=match p with
 | .ref id row off=>(match blk id with
  |some (.box _ cs)=>(match row,Nat.ble (off+ti.size) cs.length with
   |0,true=>Qal (Qhv ti.kind.agg ti.size (cs.drop off)) K
   | _, _ => Stuck "load out of the variable")
  |some (.arr _ sz _ rw)=>(match Nat.ble (off+ti.size) sz with
   |true=>Qal (Qhv ti.kind.agg ti.size (((rw row).drop off).map .d)) K
   | false => Stuck "load out of the element")
  | none => Stuck "load no such block")
 | .rp cs=>(match Nat.ble ti.size cs.length with
  |true=>Qal (Qhv ti.kind.agg ti.size (cs.map .d)) K
  | false => Stuck "load out of the row")
 | _ => Stuck "load no address"
def bnd:Option V->Int->Option Int
 |none,d=>some d
 |some (.d (.int _ n)),_=>some n
 |_,_=>none
def QkU (sc:Prop->Prop) (op:BinOp) (k:IntKind) (x y:Int) (K:V->Prop):Prop:=match op with
 | .add=>K (.d (.int k (k.wrap (x+y))))
 | .sub=>K (.d (.int k (k.wrap (x-y))))
 | .mul=>K (.d (.int k (k.wrap (x*y))))
 | .quo=>sc (y≠0)∧K (.d (.int k (k.wrap (x.tdiv y))))
 | .rem=>sc (y≠0)∧K (.d (.int k (x.tmod y)))
 | .and=>K (.d (.int k (bits .and k x y)))
 | .or=>K (.d (.int k (bits .or k x y)))
 | .xor=>K (.d (.int k (bits .xor k x y)))
 | .andNot=>K (.d (.int k (bits .andNot k x y)))
 | .eql=>K (.d (.bool (x==y)))
 | .neq=>K (.d (.bool (x !=y)))
 | .lss=>K (.d (.bool (decide (x<y))))
 | .leq=>K (.d (.bool (decide (x<=y))))
 | .gtr=>K (.d (.bool (decide (x>y))))
 | .geq=>K (.d (.bool (decide (x>=y))))
 | .shl=>sc (0<=y)∧K (.d (.int k (k.wrap (x*2^min y.toNat k.bits))))
 | .shr=>sc (0<=y)∧K (.d (.int k (x.fdiv (2^min y.toNat k.bits))))
def Qy1 (f:TypeId->List V->List V->Option Bool) (tb:Tb):List (TypeId×Nat)->List V->List V->Option Bool
 |[],_,_=>some true
 |(t,o)::r,xs,ys=>match tb.find t with
  |some ti=>(match Nat.ble (o+ti.size) xs.length,Nat.ble (o+ti.size) ys.length with
   |true,true=>(match f t ((xs.drop o).take ti.size) ((ys.drop o).take ti.size),Qy1 f tb r xs ys with
    |some a,some b=>some (a&&b)
    |_,_=>none)
   |_,_=>none)
  |none=>none
def eqT (tb:Tb):Nat->TypeId->List V->List V->Option Bool
 |0,_,_,_=>none
 |n+1,t,xs,ys=>match tb.find t with
  |some ⟨.struct fs,_,_,_,true⟩=>Qy1 (eqT tb n) tb fs xs ys
  |some ⟨.int _,_,_,_,_⟩=>(match xs,ys with
   | .d (.int k a)::_,.d (.int k' b)::_=>(match k==k' with
    |true=>some (a==b)
    |false=>none)
   |_,_=>none)
  |some ⟨.bool,_,_,_,_⟩=>(match xs,ys with
   | .d (.bool a)::_,.d (.bool b)::_=>some (a==b)
   |_,_=>none)
  |some ⟨.str,_,_,_,_⟩=>(match xs,ys with
   | .d (.str a)::_,.d (.str b)::_=>some (a==b)
   |_,_=>none)
  |_=>none
def V.storable:V->Bool
 | .any=>false
 | .tup _=>false
 |_=>true
def QrJ (fs:List (TypeId×Nat)) (tb:Tb):List V->List (Nat×V)->Option (List V)
 |cs,[]=>some cs
 |cs,(i,v)::r=>match fs[i]? with
  |some (t,o)=>(match tb.find t with
   |some ti=>(match (v.storable&&Nat.beq v.cells.length ti.size),Nat.ble (o+ti.size) cs.length with
    |true,true=>QrJ fs tb (QcO cs o v.cells) r
    |_,_=>none)
   |none=>none)
  |none=>none
def QrK:List V->Option (List (List D))
 |[]=>some []
 | .rp cs::r=>(match QrK r with
  |some xs=>some (cs::xs)
  |none=>none)
 |_=>none
def V.fnD:V->V
 | .fn f vs=>(match QrK vs with
  |some caps=>.d (.fn f caps)
  |none=>.fn f vs)
 |v=>v
def Qop (sz:Nat):Nat->List (Nat×V)->Option (List (List D))
 |_,[]=>some []
 |i,(k,v)::r=>match Nat.beq k i,QrI v.fnD.cells with
  |true,some ds=>(match Nat.beq ds.length sz,Qop sz (i+1) r with
   |true,some rs=>some (ds::rs)
   |_,_=>none)
  |_,_=>none
def rowAt (rs:List (List D)) (i:Nat):List D:=match rs[i]? with
 |some r=>r
 |none=>[]
def Qoq:Nat->Nat->Nat
 |0,i=>i
 |o+1,i=>o+1+i
theorem QdB (o i:Nat):Qoq o i=o+i:=by cases o<;>simp[Qoq]
def QgL (h l:Int):Nat:=match l with
 | .ofNat 0=>h.toNat
 |l=>(h-l).toNat
theorem Q5 (h l:Int):QgL h l=(h-l).toNat:=by
 unfold QgL;split
 ·simp
 ·rfl
def QsV (n:Nat) (row:Nat->List D):Option (List Int):=Nat.rec (some []) (fun i r=>match r,row i with
 |some ns,[.int .u8 k]=>some (ns++[k])
 |_,_=>none) n
def Qf8 (G:List Int):ByteArray:=G.foldl (fun r n=>r.push (UInt8.ofNat n.toNat)) ByteArray.empty
def zLe (d d':D):Prop:=d=d'∨(d=.nil∧∃row,d'=.sl 0 row)
def zLes:List D->List D->Prop
 |[],[]=>True
 |a::r,b::s=>zLe a b∧zLes r s
 |_,_=>False
def Qw2:List D->Int
 |[.int .u8 k]=>k
 |_=>0
def QpE (n:Nat) (row:Nat->List D):List Int:=(List.range n).map fun i=>Qw2 (row i)
def QqE (n:Nat) (row:Nat->List D):Prop:=∀i,i<n->row i=[.int .u8 (Qw2 (row i))]
def bsl (a b:ByteArray):Bool:=Op.bytesLess a.toList b.toList
def Qaa (s:ByteArray) (i:Nat):Int:=match s[i]? with
 |some b=>(b.toNat:Int)
 |none=>0
def evP (tb:Tb) (ev:List (Nat×Bool)->Operand->V) (blk:Nat->Option Blk) (sc:Prop->Prop) (op:Op) (K:V->Prop):Prop:=match op with
 | .move x=>Qal (ev [] x) K
 | .assign x=>Qal (ev [] x) K
 | .load t a=>(match tb.find t with
  |some ti=>QdN ti blk (ev [] a) K
  | none => Stuck "load type")
 | .nilCheck x=>(match ev [] x with
  | .ref i r o=>K (.ref i r o)
  | .rp cs=>K (.rp cs)
  | _ => Stuck "nilCheck")
 | .fieldAddr s x f=>(match tb.find s with
  |some ⟨.struct fs,_,_,_,_⟩=>(match fs[f]?,ev [] x with
   |some (t,o),.ref i r off=>(match tb.find t with
    |some ⟨_,_+1,_,_,_⟩=>K (.ref i r (off+o))
    | _ => Stuck "fieldAddr a field of no size")
   |some (t,o),.rp cs=>(match tb.find t with
    |some ⟨_,_+1,_,_,_⟩=>QkT (cs.drop o) fun cs=>K (.rp cs)
    | _ => Stuck "fieldAddr a field of no size")
   | _, _ => Stuck "fieldAddr")
  | _ => Stuck "fieldAddr type")
 | .field s x f=>(match tb.find s with
  |some ⟨.struct fs,_,_,_,_⟩=>(match fs[f]?,ev [] x with
   |some (t,o),.agg vs=>(match tb.find t with
    |some ti=>(match Nat.ble (o+ti.size) vs.length with
     |true=>Qal (Qhv ti.kind.agg ti.size (vs.drop o)) K
     | false => Stuck "field size")
    | none => Stuck "field type")
   | _, _ => Stuck "field")
  | _ => Stuck "field type")
 | .indexAddr t x i=>(match tb.find t with
  |some ⟨.slice e,_,_,_,_⟩=>(match tb.find e,ev [] x,ev [] i with
   |some te,.osl id off len,.d (.int _ n)=>(match blk id with
    |some (.arr _ sz _ _)=>(match Nat.beq te.size sz with
     |true=>sc (0<=n∧n<len)∧K (.ref id (Qoq off n.toNat) 0)
     | false => Stuck "indexAddr size")
    |some (.box _ _)=>(match off with
     |0=>sc (0<=n∧n<len)∧K (.ref id 0 (n.toNat*te.size))
     | _ => Stuck "indexAddr off")
    | _ => Stuck "indexAddr no such block")
   |some te,.d (.sl len row),.d (.int _ n)=>sc (0<=n∧n<len)∧QkT (row n.toNat) fun cs=>(match Nat.beq te.size cs.length with
    |true=>K (.rp cs)
    | false => Stuck "indexAddr size of the row")
   | _, _, _ => Stuck "indexAddr")
  | _ => Stuck "indexAddr type")
 | .binOp op t x y _=>(match ev [] x,ev [] y with
  | .d (.int k a),.d (.int k' b)=>(match k==k' with
   |true=>QkU sc op k a b K
   | false => Stuck "binOp kinds")
  | .d (.bool a),.d (.bool b)=>(match op,tb.find t with
   | .eql,some ⟨.bool,_,_,_,_⟩=>K (.d (.bool (a==b)))
   | .neq,some ⟨.bool,_,_,_,_⟩=>K (.d (.bool (!(a==b))))
   | _, _ => Stuck "binOp bool")
  | .agg a,.agg b=>(match tb.find t with
   |some ⟨.struct _,_,_,_,true⟩=>(match op,eqT tb 9 t a b with
    | .eql,some e=>K (.d (.bool e))
    | .neq,some e=>K (.d (.bool !e))
    | _, _ => Stuck "binOp struct")
   | _ => Stuck "binOp a struct that cannot be compared")
  | .d (.str a),.d (.str b)=>(match op with
   | .eql=>K (.d (.bool (a==b)))
   | .neq=>K (.d (.bool !(a==b)))
   | .add=>sc (a.size+b.size<=9223372036854775807)∧K (.d (.str (a++b)))
   | .lss=>K (.d (.bool (bsl a b)))
   | .leq=>K (.d (.bool (bsl a b||a==b)))
   | .gtr=>K (.d (.bool !(bsl a b||a==b)))
   | .geq=>K (.d (.bool !(bsl a b)))
   | _ => Stuck "binOp string")
  | .ref _ _ _,.d (.zn .ptr)=>(match op,tb.find t with
   | .eql,some ⟨.ptr _,_,_,_,_⟩=>K (.d (.bool false))
   | .neq,some ⟨.ptr _,_,_,_,_⟩=>K (.d (.bool true))
   | _, _ => Stuck "binOp nil")
  | .rp _,.d (.zn .ptr)=>(match op,tb.find t with
   | .eql,some ⟨.ptr _,_,_,_,_⟩=>K (.d (.bool false))
   | .neq,some ⟨.ptr _,_,_,_,_⟩=>K (.d (.bool true))
   | _, _ => Stuck "binOp nil")
  | .d (.zn .ptr),.d (.zn .ptr)=>(match op,tb.find t with
   | .eql,some ⟨.ptr _,_,_,_,_⟩=>K (.d (.bool true))
   | .neq,some ⟨.ptr _,_,_,_,_⟩=>K (.d (.bool false))
   | _, _ => Stuck "binOp nil")
  | _, _ => Stuck "binOp")
 | .unOp op _ x=>(match op,ev [] x with
  | .not,.d (.bool b)=>K (.d (.bool !b))
  | .neg,.d (.int k n)=>K (.d (.int k (k.wrap (0-n))))
  | _, _ => Stuck "unOp")
 | .pick c a b=>(match ev [] c with
  | .d (.bool p)=>(match c,b with
   | .tmp tc,.const (.bool false)=>(match ev [(tc,true)] a with
    | .d (.bool q)=>K (.d (.bool (p&&q)))
    | _ => Stuck "pick and")
   | .tmp tc,_=>(match a,ev [(tc,false)] b with
    | .const (.bool true),.d (.bool q)=>K (.d (.bool (p||q)))
    | _, _ => Stuck "pick or")
   | _, _ => Stuck "pick")
  | _ => Stuck "pick no bool")
 | .extract x i=>(match ev [] x with
  | .tup vs=>(match vs[i]? with
   |some v=>Qal v K
   | none => Stuck "extract")
  | _ => Stuck "extract no tuple")
 | .slice t x lo hi J=>(match J with
  |none=>(match tb.find t with
  |some ⟨.slice e,_,_,_,_⟩=>(match tb.find e,ev [] x with
   |some te,.osl id off len=>(match blk id,bnd (lo.map (ev [])) 0,bnd (hi.map (ev [])) len with
    |some (.arr _ sz _ _),some l,some h=>(match Nat.beq te.size sz with
     |true=>sc (0<=l∧l<=h∧h<=len)∧K (.osl id (Qoq off l.toNat) (QgL h l))
     | false => Stuck "slice size")
    | _, _, _ => Stuck "slice no such block")
   |some te,.d (.sl len row)=>(match bnd (lo.map (ev [])) 0,bnd (hi.map (ev [])) len with
    |some l,some h=>sc ((0<=l∧l<=h∧h<=len)∧(l=0∨(row 0).length=te.size))∧K (.d (.sl (QgL h l) fun i=>row (i+l.toNat)))
    | _, _ => Stuck "slice bounds")
   |some _,.d .nil=>(match bnd (lo.map (ev [])) 0,bnd (hi.map (ev [])) 0 with
    |some l,some h=>sc (l=0∧h=0)∧K (.d .nil)
    | _, _ => Stuck "slice bounds")
   | _, _ => Stuck "slice")
  |some ⟨.str,_,_,_,_⟩=>(match ev [] x with
   | .d (.str s)=>(match bnd (lo.map (ev [])) 0,bnd (hi.map (ev [])) s.size with
    |some l,some h=>sc (0<=l∧l<=h∧h<=s.size)∧K (.d (.str (s.extract l.toNat h.toNat)))
    | _, _ => Stuck "slice bounds")
   | _ => Stuck "slice string")
  | _ => Stuck "slice type")
  | some _ => Stuck "slice three bounds")
 | .convert s t x=>(match tb.find s,tb.find t,ev [] x with
  |some _,some ⟨.int k,_,_,_,_⟩,.d (.int _ n)=>K (.d (.int k (k.wrap n)))
  |some ⟨.slice e,_,_,_,_⟩,some ⟨.str,_,_,_,_⟩,.d (.sl n row)=>(match tb.find e,QsV n row with
   |some ⟨.int .u8,_,_,_,_⟩,some ns=>K (.d (.str (Qf8 ns)))
   | _, _ => Stuck "convert to a string")
  |some ⟨.slice e,_,_,_,_⟩,some ⟨.str,_,_,_,_⟩,.osl id off len=>(match blk id with
   |some (.arr _ sz _ row)=>(match Nat.beq sz 1,tb.find e,off with
    |true,some ⟨.int .u8,_,_,_,_⟩,0=>QqE len row∧K (.d (.str (Qf8 (QpE len row))))
    | _, _, _ => Stuck "convert to a string")
   | _ => Stuck "convert no such block")
  | _, _, _ => Stuck "convert")
 | .index t x i=>(match tb.find t,ev [] x,ev [] i with
  |some ⟨.str,_,_,_,_⟩,.d (.str s),.d (.int _ n)=>sc (0<=n∧n<s.size)∧K (.d (.int .u8 (Qaa s n.toNat)))
  | _, _, _ => Stuck "index")
 | .makeFunc f first I=>(match f,first.toList with
  | .func f,[]=>Qaq (I.toList.map (ev [])) fun vs=>K (.fn f vs)
  | _, _ => Stuck "makeFunc")
 | .build t G=>(match tb.find t with
  |some ⟨.struct fds,_,_,z,_⟩=>(match QrJ fds tb (z.map .d) (G.toList.map fun p=>(p.1,ev [] p.2)) with
   |some cs=>Qaq cs fun cs=>K (.agg cs)
   | none => Stuck "build")
  | _ => Stuck "build type")
 | .buildSlice t len G=>(match tb.find t with
  |some ⟨.slice e,_,_,_,_⟩=>(match tb.find e with
   |some te=>(match Qop te.size 0 (G.toList.map fun p=>(p.1,ev [] p.2)),Nat.ble (len*te.size) 1000000 with
    |some rs,true=>(match Nat.beq rs.length len with
     |true=>(match len with
      |0=>K (.d .nil)
      |n+1=>K (.d (.sl (n+1) (rowAt rs))))
     | false => Stuck "buildSlice parts left out")
    | _, _ => Stuck "buildSlice")
   | none => Stuck "buildSlice element type")
  | _ => Stuck "buildSlice type")
 | .call c=>(match c.callee with
  | .builtin .len=>(match c.args.toList,c.argTypes.toList with
   |[x],[t]=>(match tb.find t,ev [] x with
    |some ⟨.slice _,_,_,_,_⟩,.osl _ _ l=>K (.d (.int .i64 l))
    |some ⟨.slice _,_,_,_,_⟩,.d (.sl n _)=>K (.d (.int .i64 n))
    |some ⟨.slice _,_,_,_,_⟩,.d .nil=>K (.d (.int .i64 0))
    |some ⟨.str,_,_,_,_⟩,.d (.str s)=>K (.d (.int .i64 s.size))
    | _, _ => Stuck "len")
   | _, _ => Stuck "len arguments")
  | .builtin .max=>(match c.args.toList with
   |[x,y]=>(match ev [] x,ev [] y with
    | .d (.int k a),.d (.int _ b)=>K (.d (.int k (if b>a then b else a)))
    | _, _ => Stuck "max")
   | _ => Stuck "max arguments")
  | .builtin .min=>(match c.args.toList with
   |[x,y]=>(match ev [] x,ev [] y with
    | .d (.int k a),.d (.int _ b)=>K (.d (.int k (if b<a then b else a)))
    | _, _ => Stuck "min")
   | _ => Stuck "min arguments")
  | _ => Stuck "call")
 | _ => Stuck "op"
def St.idOf (base dst:Nat):Nat:=match base with
 |0=>dst
 |b+1=>b+1+dst
def St.idK (base dst:Nat) (K:Nat->Prop):Prop:=match base with
 |0=>K dst
 |b+1=>K (b+1+dst)
theorem St.idK_eq (base dst:Nat) (K:Nat->Prop):St.idK base dst K=K (St.idOf base dst):=by cases base<;>rfl
def Zy (off:Nat) (row:Nat->List D):Nat->List D:=match off with
 |0=>row
 |o+1=>fun i=>row (o+1+i)
def Qor (sz:Nat) (ds:List D):Nat->List D:=fun i=>(ds.drop (i*sz)).take sz
def J6 (blk:Nat->Option Blk) (sz:Nat):V->Option (Nat×(Nat->List D))
 | .osl id off len=>(match blk id with
  |some (.arr _ s _ row)=>(match Nat.beq s sz with
   |true=>some (len,Zy off row)
   |false=>none)
  |_=>none)
 | .d (.sl n row)=>(match Nat.beq (row 0).length sz with
  |true=>some (n,row)
  |false=>none)
 | .d .nil=>some (0,fun _=>[])
 |_=>none
def Qey (n:Nat) (r s:Nat->List D):Nat->List D:=fun i=>if i<n then r i else s (i-n)
def evE (tb:Tb) (dst:Option Nat) (op:Op) (S:St) (K:V->St->Prop):Prop:=match S with
 |⟨base,nt,ts,gs,bs,fs⟩=>match op with
  | .store t a x=>(match tb.find t,St.ev ⟨base,nt,ts,gs,bs,fs⟩ [] a,St.ev ⟨base,nt,ts,gs,bs,fs⟩ [] x with
   |some ti,.ref id row off,v=>(match (v.storable&&Nat.beq v.cells.length ti.size),Qi bs id with
    |true,some (.box t cs)=>(match row,Nat.ble (off+ti.size) cs.length with
     |0,true=>Qaq (QcO cs off v.cells) fun U=>Qay (QfQ bs id (.box t U)) fun bs'=>K .any ⟨base,nt,ts,gs,bs',fs⟩
     | _, _ => Stuck "store out of the variable")
    |true,some (.arr t sz n rw)=>(match Nat.ble (off+ti.size) sz,QrI v.cells with
     |true,some ds=>∃G,(∀i,i<n->G i=if i=row then QcO (rw row) off ds else rw i)∧Qay (QfQ bs id (.arr t sz n G)) fun bs'=>K .any ⟨base,nt,ts,gs,bs',fs⟩
     | _, _ => Stuck "store into the element")
    | _, _ => Stuck "store size or no such block")
   | _, _, _ => Stuck "store no address of a block of the calls own")
  | .alloc t=>(match tb.find t,dst,Nat.blt t 1000000 with
   |some ti,some dst,true=>St.idK base dst fun id=>(match St.mentions ⟨base,nt,ts,gs,bs,fs⟩ id with
    | true => Stuck "alloc the block is named already"
    |false=>Qaq (ti.zero.map .d) fun cs=>K (.ref id 0 0) ⟨base,nt,ts,gs,(id,.box t cs)::bs,fs⟩)
   | _, _, _ => Stuck "alloc")
  | .box t x=>(match dst,Nat.blt t 1000000 with
   |some dst,true=>St.idK base dst fun id=>(match St.mentions ⟨base,nt,ts,gs,bs,fs⟩ id|| !(St.ev ⟨base,nt,ts,gs,bs,fs⟩ [] x).storable with
    | true => Stuck "box the block is named already or what is stored is not known"
    |false=>Qaq (St.ev ⟨base,nt,ts,gs,bs,fs⟩ [] x).cells fun cs=>K (.ref id 0 0) ⟨base,nt,ts,gs,(id,.box t cs)::bs,fs⟩)
   | _, _ => Stuck "box")
  | .makeSlice t l c=>(match tb.find t,dst with
   |some ⟨.slice e,_,_,_,_⟩,some dst=>(match tb.find e,St.ev ⟨base,nt,ts,gs,bs,fs⟩ [] l,St.ev ⟨base,nt,ts,gs,bs,fs⟩ [] c with
    |some ⟨_,sz,byt,z,_⟩,.d (.int .i64 n),.d (.int .i64 m)=>St.idK base dst fun id=>(match St.mentions ⟨base,nt,ts,gs,bs,fs⟩ id with
     | true => Stuck "makeSlice the block is named already"
     |false=>(0<=n∧n<=m∧m*byt<=140737488355328∧m<=140737488355328)∧∃I G,I=n.toNat∧(∀i,i<I->G i=z)∧K (.osl id 0 I) ⟨base,nt,ts,gs,(id,.arr e sz I G)::bs,fs⟩)
    | _, _, _ => Stuck "makeSlice")
   | _, _ => Stuck "makeSlice type")
  | .buildSlice t len J=>(match tb.find t,dst with
   |some ⟨.slice e,_,_,_,_⟩,some dst=>(match tb.find e with
    |some ⟨_,sz,_,_,_⟩=>St.idK base dst fun id=>(match Qop sz 0 (J.toList.map fun p=>(p.1,St.ev ⟨base,nt,ts,gs,bs,fs⟩ [] p.2)),St.mentions ⟨base,nt,ts,gs,bs,fs⟩ id,Nat.ble (len*sz) 1000000 with
     |some rs,false,true=>(match Nat.beq rs.length len with
      |true=>∃I G,I=len∧(∀i,i<I->G i=rowAt rs i)∧K (.osl id 0 I) ⟨base,nt,ts,gs,(id,.arr e sz I G)::bs,fs⟩
      | false => Stuck "buildSlice parts left out")
     | _, _, _ => Stuck "buildSlice")
    | none => Stuck "buildSlice element type")
   | _, _ => Stuck "buildSlice type")
  | .call c=>(match c.callee with
   | .builtin .append=>(match c.args.toList,c.argTypes.toList with
    |[s,x],[t,t']=>(match tb.find t,tb.find t',dst with
     |some ⟨.slice e,_,_,_,_⟩,some ⟨.slice _,_,_,_,_⟩,some dst=>(match tb.find e with
      |some ⟨_,sz,byt,_,_⟩=>(match J6 (Qi bs) sz (St.ev ⟨base,nt,ts,gs,bs,fs⟩ [] s),J6 (Qi bs) sz (St.ev ⟨base,nt,ts,gs,bs,fs⟩ [] x) with
       |some (n,r),some (m,r')=>(match St.ev ⟨base,nt,ts,gs,bs,fs⟩ [] s with
        | .osl id _ _=>(n+m)*(byt+1)<=70368744177664∧∃I G,I=n+m∧(∀i,i<I->G i=Qey n r r' i)∧QeW (Qgl id ts) fun O=>QfR (Qhu id gs) fun Y=>Qay (QcX id bs) fun bs'=>Qid (Qic id fs) fun a1=>
          K (.osl id 0 I) ⟨base,nt,O,Y,(id,.arr e sz I G)::bs',a1⟩
        | .d .nil=>St.idK base dst fun id=>(match St.mentions ⟨base,nt,ts,gs,bs,fs⟩ id with
         | true => Stuck "append the block is named already"
         |false=>(n+m)*(byt+1)<=70368744177664∧∃I G,I=m∧(∀i,i<I->G i=r' i)∧K (.osl id 0 I) ⟨base,nt,ts,gs,(id,.arr e sz I G)::bs,fs⟩)
        | _ => Stuck "append to a slice that is not the calls own")
       | _, _ => Stuck "append contents")
      | none => Stuck "append element type")
     | _, _, _ => Stuck "append type")
    | _, _ => Stuck "append arguments")
   | .builtin .clear=>(match c.args.toList,c.argTypes.toList with
    |[s],[t]=>(match tb.find t with
     |some ⟨.slice e,_,_,_,_⟩=>(match tb.find e,St.ev ⟨base,nt,ts,gs,bs,fs⟩ [] s with
      |some ⟨_,sz,_,z,_⟩,.osl id off len=>(match Qi bs id with
       |some (.arr t' sz' n rw)=>(match Nat.beq sz' sz with
        |true=>∃G,(∀i,i<n->(off<=i∧i<off+len->zLes z (G i))∧(¬(off<=i∧i<off+len)->G i=rw i))∧Qay (QfQ bs id (.arr t' sz' n G)) fun bs'=>K .any ⟨base,nt,ts,gs,bs',fs⟩
        | false => Stuck "clear size")
       | _ => Stuck "clear no such block")
      | _, _ => Stuck "clear")
     | _ => Stuck "clear type")
    | _, _ => Stuck "clear arguments")
   | _ => Stuck "call")
  | _ => Stuck "op"
end Go.Ab
namespace Go.Ab
open Go.RowKit
def Zn.val:Zn->Value
 | .ptr=>.pointer none
 | .func=>.nilFunc
 | .iface=>.nilIface
 | .map=>.map none
structure Loc where
 b:Nat
 o:Nat
 sz:Nat
 n:Nat
 cap:Nat
 ph:Bool
abbrev Env:=Nat->Loc
inductive DR (w:World) (own:Nat→Prop):D→Value→Prop
 |int {k n}:DR w own (.int k n) (.int k n)
 |bool {b}:DR w own (.bool b) (.bool b)
 |str {s}:DR w own (.str s) (.string s)
 |nil {ad}:DR w own .nil (.slice ad 0 0)
 |zn {z}:DR w own (.zn z) z.val
 |sl0 {n row ad c}:n=0→DR w own (.sl n row) (.slice ad 0 c)
 |sl {n row b o c sz} (vals:Nat→Nat→Value) (ho:¬own b) (hb:b<w.heap.size) (hl:∀i,i<n→(row i).length=sz)
   (hc:∀i j d,i<n→(row i)[j]? =some d→w.cell? ⟨b,o+i*sz+j,none⟩=some (vals i j))
   (hv:∀i j d,i<n→(row i)[j]? =some d→DR w own d (vals i j)) (hcap:n≤c):DR w own (.sl n row) (.slice (some ⟨b,o,none⟩) n c)
 |fn {f caps cs} (bs os:Nat→Nat) (vals:Nat→Nat→Value) (hs:cs.size=caps.length)
   (hp:∀k cells,caps[k]? =some cells→cs.getD k undef=.pointer (some ⟨bs k,os k,none⟩)∧¬own (bs k)∧bs k<w.heap.size)
   (hc:∀k cells j d,caps[k]? =some cells→cells[j]? =some d→w.cell? ⟨bs k,os k+j,none⟩=some (vals k j))
   (hv:∀k cells j d,caps[k]? =some cells→cells[j]? =some d→DR w own d (vals k j)):DR w own (.fn f caps) (.func (.func f) #[] cs)
structure Keep (w:World) (own:Nat→Prop) (w':World) (own':Nat→Prop):Prop where
 size:w.heap.size≤w'.heap.size
 old:∀b,b<w.heap.size→¬own b→w'.heap[b]? =w.heap[b]?∧¬own' b
theorem QsW {w:World} {a:Addr} {v:Value} (h:w.cell? a=some v):a.block<w.heap.size:=block_lt_of_cell h
theorem DR.keep {w own w' own' x v} (h:DR w own x v) (k:Keep w own w' own'):DR w' own' x v:=by
 induction h with
 |int=>exact .int
 |bool=>exact .bool
 |str=>exact .str
 |nil=>exact .nil
 |zn=>exact .zn
 |sl0 h=>exact .sl0 h
 |sl vals ho hb hl hc hv hcap I=>
  have hk:=k.old _ hb ho;refine .sl vals hk.2 (YH hb k.size) hl (fun i j d hi J=>?_) I hcap;rw[World.cell?_of_block (w:=w) hk.1];exact hc i j d hi J
 |fn bs os vals hs hp hc hv I=>
  refine .fn bs os vals hs (fun q cells G=>?_) (fun q cells j d G hj=>?_) I
  ·have⟨h1,h2,h3⟩:=hp q cells G;exact⟨h1,(k.old _ h3 h2).2,YH h3 k.size⟩
  ·have⟨h1,h2,h3⟩:=hp q cells G;rw[World.cell?_of_block (w:=w) (k.old _ h3 h2).1];exact hc q cells j d G hj
theorem DR.zle {w own d d' v} (h:zLe d d') (k:DR w own d v):DR w own d' v:=by
 rcases h with rfl|⟨rfl,row,rfl⟩
 ·exact k
 ·cases k;exact .sl0 rfl
theorem zLes.len:∀ {a b:List D},zLes a b->a.length=b.length
 |[],[],_=>rfl
 |_::_,_::_,h=>by simp[zLes.len h.2]
 |[],_::_,h=>h.elim
 |_::_,[],h=>h.elim
theorem zLes.get:∀ {a b:List D} {j:Nat} {d:D},zLes a b->b[j]? =some d->∃G,a[j]? =some G∧zLe G d
 |[],[],_,_,_,hd=>by simp at hd
 |x::_,y::_,0,d,h,hd=>by simp at hd;subst hd;exact⟨x,rfl,h.1⟩
 |_::_,_::_,j+1,d,h,hd=>by simpa using zLes.get h.2 (by simpa using hd)
 |[],_::_,_,_,h,_=>h.elim
 |_::_,[],_,_,h,_=>h.elim
theorem DR.oneCell {w own x v} (h:DR w own x v):v.oneCell'=true:=by
 cases h with
 |zn=>rename_i z;cases z<;>rfl
 |_=>rfl
theorem DR.cells1 {w own x v} (h:DR w own x v):v.cells=#[v]:=by
 cases h with
 |zn=>rename_i z;cases z<;>rfl
 |_=>rfl
inductive VR (w:World) (own:Nat→Prop) (ρ:Env):V→Value→Prop
 |any {v}:VR w own ρ .any v
 |d {x v}:DR w own x v→VR w own ρ (.d x) v
 |ref {id row off}:(ρ id).ph=false→row<(ρ id).n→VR w own ρ (.ref id row off) (.pointer (some ⟨(ρ id).b,(ρ id).o+row*(ρ id).sz+off,none⟩))
 |osl0 {id off len ad}:len=0→off≤(ρ id).n→VR w own ρ (.osl id off len) (.slice ad 0 0)
 |osl {id off len}:(ρ id).ph=false→off+len≤(ρ id).n→(ρ id).n≤(ρ id).cap→
   VR w own ρ (.osl id off len) (.slice (some ⟨(ρ id).b,(ρ id).o+off*(ρ id).sz,none⟩) len ((ρ id).cap-off))
 |rp {cells b o} (vals:Nat→Value):¬own b→b<w.heap.size→(∀j d,cells[j]? =some d→w.cell? ⟨b,o+j,none⟩=some (vals j))→
   (∀j d,cells[j]? =some d→DR w own d (vals j))→VR w own ρ (.rp cells) (.pointer (some ⟨b,o,none⟩))
 |agg {vs cs}:cs.size=vs.length→(∀j,j<cs.size→(cs.getD j undef).oneCell'=true)→(∀j v,vs[j]? =some v→VR w own ρ v (cs.getD j undef))→
   VR w own ρ (.agg vs) (.agg cs)
 |tup {vs cs}:cs.size=vs.length→(∀j v,vs[j]? =some v→VR w own ρ v (cs.getD j undef))→VR w own ρ (.tup vs) (.tuple cs)
 |fn {f vs cs}:cs.size=vs.length→(∀j v,vs[j]? =some v→VR w own ρ v (cs.getD j undef))→VR w own ρ (.fn f vs) (.func (.func f) #[] cs)
theorem Qni:∀ {vs:List V} {caps:List (List D)},QrK vs=some caps->vs=caps.map .rp
 |[],caps,h=>by simp[QrK] at h;subst h;rfl
 |v::r,caps,h=>by
  cases v<;>simp only[QrK] at h<;>first|cases h|skip
  split at h
  ·rename_i xs G
   cases h
   rw[Qni G];rfl
  ·cases h
theorem VR.fnDat {w own ρ f caps v} (h:VR w own ρ (.fn f (caps.map .rp)) v):DR w own (.fn f caps) v:=by
 cases h with
 |fn hs hv=>
  rename_i cs;have hs:cs.size=caps.length:=by simpa using hs
  have key:∀k cells,caps[k]? =some cells->∃b o,∃vals:Nat->Value,cs.getD k undef=.pointer (some ⟨b,o,none⟩)∧¬own b∧b<w.heap.size∧(∀j d,cells[j]? =some d->w.cell? ⟨b,o+j,none⟩=some (vals j))∧∀j d,cells[j]? =some d->DR w own d (vals j):=fun k cells hk=>by
   have:=hv k (.rp cells) (by simp[hk]);generalize cs.getD k undef=x at this
   cases this with
   |rp vals ho hb hc G=>exact⟨_,_,vals,rfl,ho,hb,hc,G⟩
  refine .fn (fun k=>match caps[k]? with|some _=>(match cs.getD k undef with| .pointer (some a)=>a.block|_=>0)|none=>0) (fun k=>match cs.getD k undef with| .pointer (some a)=>a.off|_=>0)
   (fun k j=>match cs.getD k undef with| .pointer (some a)=>(w.cell? ⟨a.block,a.off+j,none⟩).getD undef|_=>undef) hs (fun k cells hk=>?_) (fun k cells j d hk hj=>?_) fun k cells j d hk hj=>?_
  ·have⟨b,o,vals,e,h1,h2,h3,h4⟩:=key k cells hk;simp only[hk,e];exact⟨trivial,h1,h2⟩
  ·have⟨b,o,vals,e,h1,h2,h3,h4⟩:=key k cells hk;simp only[hk,e,h3 j d hj,X3]
  ·have⟨b,o,vals,e,h1,h2,h3,h4⟩:=key k cells hk;simp only[e,h3 j d hj,X3];exact h4 j d hj
theorem DR.fnRp {w own f caps v} (ρ:Env) (h:DR w own (.fn f caps) v):VR w own ρ (.fn f (caps.map .rp)) v:=by
 cases h with
 |fn bs os vals hs hp hc hv=>
  refine .fn (by simpa using hs) fun j u hj=>?_;rw[Yz] at hj;obtain⟨cells,hk,rfl⟩:=Yc.1 hj;have⟨h1,h2,h3⟩:=hp j cells hk;rw[h1];exact .rp (vals j) h2 h3 (fun i d hi=>hc j cells i d hk hi) (fun i d hi=>hv j cells i d hk hi)
theorem VR.toD {w own ρ v x} (h:VR w own ρ v x):VR w own ρ v.fnD x:=by
 cases v with
 |fn f vs=>
  simp only[V.fnD];split
  ·rename_i caps hc;rw[Qni hc] at h;exact .d h.fnDat
  ·exact h
 |_=>exact h
theorem Zc {id:Nat}:∀ {vs:List V} {j:Nat} {v:V},vs[j]? =some v->v.mentions id=true->QU id vs=true
 |v::r,0,_,h,hm=>by simp at h;subst h;simp[QU,hm]
 |v::r,j+1,_,h,hm=>by
  have:=Zc (vs:=r) (by simpa using h) hm;simp only[QU];split<;>simp_all
 |[],_,_,h,_=>by simp at h
theorem VR.keep {w own ρ w' own' ρ' v x} (h:VR w own ρ v x) (k:Keep w own w' own') (G:∀id,v.mentions id=true->ρ' id=ρ id):VR w' own' ρ' v x:=by
 induction h with
 |any=>exact .any
 |d h=>exact .d (h.keep k)
 |ref h1 h2=>rename_i id row off;rw[<-G id (by simp[V.mentions])] at*;exact .ref h1 h2
 |osl0 J h1=>rename_i id off len ad;rw[<-G id (by simp[V.mentions])] at*;exact .osl0 J h1
 |osl h1 h2 h3=>rename_i id off len;rw[<-G id (by simp[V.mentions])] at*;exact .osl h1 h2 h3
 |rp vals ho hb hc O=>
  have hk:=k.old _ hb ho;exact .rp vals hk.2 (YH hb k.size) (fun j d hj=>by rw[World.cell?_of_block (w:=w) hk.1];exact hc j d hj) (fun j d hj=>(O j d hj).keep k)
 |agg hs h1 hv I=>exact .agg hs h1 fun j v hj=>I j v hj fun id hm=>G id (by simpa[V.mentions] using Zc hj hm)
 |tup hs hv I=>exact .tup hs fun j v hj=>I j v hj fun id hm=>G id (by simpa[V.mentions] using Zc hj hm)
 |fn hs hv I=>exact .fn hs fun j v hj=>I j v hj fun id hm=>G id (by simpa[V.mentions] using Zc hj hm)
theorem Qgm {id:Nat}:∀(vs:List V) (j:Nat),(Qd3 id vs)[j]? =(vs[j]?).map (V.kill id)
 |[],j=>by simp[Qd3]
 |v::r,0=>by simp[Qd3]
 |v::r,j+1=>by simpa[Qd3] using Qgm r j
theorem Qbu {id:Nat}:∀(vs:List V),(Qd3 id vs).length=vs.length
 |[]=>rfl
 |v::r=>by simp[Qd3,Qbu r]
theorem VR.kill {w own ρ v x} (id:Nat) (h:VR w own ρ v x):VR w own ρ (v.kill id) x:=by
 induction h with
 |any=>exact .any
 |d h=>exact .d h
 |ref h1 h2=>simp only[V.kill];split<;>first|exact .any|exact .ref h1 h2
 |osl0 J h1=>simp only[V.kill];split<;>first|exact .any|exact .osl0 J h1
 |osl h1 h2 h3=>simp only[V.kill];split<;>first|exact .any|exact .osl h1 h2 h3
 |rp vals ho hb hc O=>exact .rp vals ho hb hc O
 |agg hs h1 hv I=>
  refine .agg (by rw[Qbu];exact hs) h1 fun j v hj=>?_;rw[Qgm] at hj;obtain⟨v',G,rfl⟩:=Yc.1 hj;exact I j v' G
 |tup hs hv I=>
  refine .tup (by rw[Qbu];exact hs) fun j v hj=>?_;rw[Qgm] at hj;obtain⟨v',G,rfl⟩:=Yc.1 hj;exact I j v' G
 |fn hs hv I=>
  refine .fn (by rw[Qbu];exact hs) fun j v hj=>?_;rw[Qgm] at hj;obtain⟨v',G,rfl⟩:=Yc.1 hj;exact I j v' G
mutual
theorem V.kill_mentions (id k:Nat) (v:V):(v.kill id).mentions k=true->k≠id∧v.mentions k=true:=by
 cases v with
 |any=>simp[V.kill,V.mentions]
 |d=>simp[V.kill,V.mentions]
 |rp=>simp[V.kill,V.mentions]
 |ref i r o=>
  simp only[V.kill]
  cases hb:Nat.beq i id
  ·simp only[V.mentions]
   intro h
   have:=Y5 h
   subst this
   exact⟨fun e=>by subst e;simp at hb,h⟩
  ·simp[V.mentions]
 |osl i r o=>
  simp only[V.kill]
  cases hb:Nat.beq i id
  ·simp only[V.mentions]
   intro h
   have:=Y5 h
   subst this
   exact⟨fun e=>by subst e;simp at hb,h⟩
  ·simp[V.mentions]
 |agg vs=>simp only[V.kill,V.mentions];exact QbY id k vs
 |tup vs=>simp only[V.kill,V.mentions];exact QbY id k vs
 |fn f vs=>simp only[V.kill,V.mentions];exact QbY id k vs
theorem QbY (id k:Nat) (vs:List V):QU k (Qd3 id vs)=true->k≠id∧QU k vs=true:=by
 cases vs with
 |nil=>simp[Qd3,QU]
 |cons v r=>
  simp only[Qd3,QU]
  cases hv:(v.kill id).mentions k
  ·intro h
   have:=QbY id k r h
   refine⟨this.1,?_⟩
   split<;>simp_all
  ·intro _
   have:=V.kill_mentions id k v hv
   exact⟨this.1,by simp[this.2]⟩
end
def own (bs:List (Nat×Blk)) (ρ:Env) (b:Nat):Prop:=∃id k,Qi bs id=some k∧(ρ id).ph=false∧(ρ id).b=b
inductive BR (w:World) (ow:Nat→Prop) (ρ:Env) (id:Nat):Blk→Prop
 |box {t cs} (C:Array Value) {et:TypeId}:(ρ id).ph=false→0≤(ρ id).o→cs.length=(ρ id).n*(ρ id).sz→((ρ id).n=max 1 (bcl t)∧(ρ id).n≤(ρ id).cap∧(bcl t=0→(ρ id).cap=1))→w.heap[(ρ id).b]? =some (.cells C et (0,0))→
   ((ρ id).o+cs.length≤C.size∧(ρ id).o+(ρ id).cap*(ρ id).sz≤C.size)→(∀j,j<cs.length→(C.getD ((ρ id).o+j) undef).oneCell'=true)→(∀j v,cs[j]? =some v→VR w ow ρ v (C.getD ((ρ id).o+j) undef))→BR w ow ρ id (.box t cs)
 |arr0 {t sz n row}:(ρ id).ph=true→(ρ id).sz=sz→(ρ id).n=n→n=0→BR w ow ρ id (.arr t sz n row)
 |arr {t sz n row} (C:Array Value) (et:TypeId):(ρ id).ph=false→(ρ id).sz=sz→(ρ id).n=n→n≤(ρ id).cap→(∀i,i<n→(row i).length=sz)→w.heap[(ρ id).b]? =some (.cells C et (0,0))→
   (ρ id).o+(ρ id).cap*sz≤C.size→(∀i j d,i<n→(row i)[j]? =some d→DR w ow d (C.getD ((ρ id).o+i*sz+j) undef))→BR w ow ρ id (.arr t sz n row)
theorem BR.keep {w ow ρ w' ow' ρ' id b} (h:BR w ow ρ id b) (k:Keep w ow w' ow') (hid:ρ' id=ρ id) (G:(ρ id).ph=false->w'.heap[(ρ id).b]? =w.heap[(ρ id).b]?)
  (O:∀i,b.mentions i=true->ρ' i=ρ i):BR w' ow' ρ' id b:=by
 cases h with
 |box C h1 h2 h3 h4 h5 h6 J I=>
  rw[<-G h1] at h5;rw[<-hid] at h1 h2 h3 h4 h5 h6 J I;exact .box C h1 h2 h3 h4 h5 h6 J fun j v hj=>(I j v hj).keep k fun i hm=>O i (by simpa[Blk.mentions] using Zc hj hm)
 |arr0 h1 h2 h3 h4=>exact .arr0 (by rw[hid];exact h1) (by rw[hid];exact h2) (by rw[hid];exact h3) h4
 |arr C et h1 h2 h3 h4 h5 h6 J I=>
  refine .arr C et ?_ ?_ ?_ ?_ h5 ?_ ?_ fun i j d hi U=>?_
  all_goals first|(rw[hid];assumption)|skip
  ·rw[hid,G h1];exact h6
  ·rw[hid];exact(I i j d hi U).keep k
structure GR (w:World) (ow:Nat→Prop) (ρ:Env) (tm:Array Value) (g:Gd):Prop where
 h:(tm.getD g.key undef=.bool g.want∧VR w ow ρ g.v (tm.getD g.t undef))∨(tm.getD g.key undef≠ .bool g.want∧tm.getD g.t undef=undef)
structure FrR (w:World) (ow:Nat→Prop) (ρ:Env) (f:Fr) (tm:Array Value):Prop where
 tmps:∀t v,Qi f.tmps t=some v→VR w ow ρ v (tm.getD t undef)
 gds:∀g,g∈f.gds→GR w ow ρ tm g
structure Bd where
 kept:Nat→Prop
 frn:Nat→Prop
 sub:∀b,frn b→kept b
 cel:Nat→Nat→Prop
instance:CoeFun Bd (fun _=>Nat→Prop):=⟨Bd.kept⟩
def ZL (B:Bd) (bs:List (Nat×Blk)) (ρ:Env) (b:Nat):Prop:=own bs ρ b∨B.frn b
structure Kept (B:Nat→Prop) (w w':World):Prop where
 os:w'.os=w.os
 tape:w'.tape=w.tape
 output:w'.output=w.output
 size:w.heap.size≤w'.heap.size
 block:∀k,B k→w'.heap[k]? =w.heap[k]?
structure KeptD (B:Bd) (w w':World):Prop extends Kept B.kept w w' where
 cell:∀b k,B.cel b k→w'.cell? ⟨b,k,none⟩=w.cell? ⟨b,k,none⟩
 clt:∀b k,B.cel b k→b<w.heap.size
structure Bd.free (B:Bd) (l:Loc) (bx:Bool):Prop where
 blk:¬B.kept l.b
 cel:∀k,B.cel l.b k→bx=true∧(k<l.o∨l.o+l.cap*l.sz≤k)
theorem KeptD.next {B:Bd} {w0 w w':World} (h:KeptD B w0 w) (os:w'.os=w.os) (tape:w'.tape=w.tape) (output:w'.output=w.output) (size:w.heap.size<=w'.heap.size) (block:∀k,B.kept k->w'.heap[k]? =w.heap[k]?)
  (cell:∀b k,B.cel b k->w'.cell? ⟨b,k,none⟩=w.cell? ⟨b,k,none⟩):KeptD B w0 w':=
 ⟨⟨os.trans h.os,tape.trans h.tape,output.trans h.output,Y05 h.size size,fun k hk=>(block k hk).trans (h.block k hk)⟩,fun b k hc=>(cell b k hc).trans (h.cell b k hc),h.clt⟩
theorem Kept.refl (B:Nat->Prop) (w:World):Kept B w w:=⟨rfl,rfl,rfl,Yi _,fun _ _=>rfl⟩
def Qek : String := "internal" ++ String.singleton (Char.ofNat 47) ++ "strconv.uint64pow10"
def QyE:Array Value:=#[.int .u64 1,.int .u64 10,.int .u64 100,.int .u64 1000,.int .u64 10000,.int .u64 100000,.int .u64 1000000,.int .u64 10000000,.int .u64 100000000,.int .u64 1000000000,.int .u64 10000000000,.int .u64 100000000000,.int .u64 1000000000000,.int .u64 10000000000000,.int .u64 100000000000000,.int .u64 1000000000000000,.int .u64 10000000000000000,.int .u64 100000000000000000,.int .u64 1000000000000000000,.int .u64 10000000000000000000]
def varNames : List String := ["internal" ++ String.singleton (Char.ofNat 47) ++ "bytealg.MaxLen", "strconv.ErrSyntax", "strconv.ErrRange"]
def Qw3:Nat->Value->Prop
 |0,v=>∃m,v=.int .i64 m
 |_,v=>v=.nilIface∨ ∃te G,v=.iface te G
def TabB (P:Program) (B:Nat->Prop) (w:World):Prop:=
 (∀g,P.globalNamed Qek=some g->B g∧w.var? P Qek=some QyE)∧
 ∀i G g,varNames[i]? =some G->P.globalNamed G=some g->B g∧∃v,w.cell? ⟨g,0,none⟩=some v∧Qw3 i v
theorem TabB.keep {P:Program} {B B':Nat->Prop} {w0 w:World} (h:TabB P B w0) (k:Kept B w0 w) (hb:∀b,B b->B' b):TabB P B' w:=⟨fun g G=>by
 have⟨h1,h2⟩:=h.1 g G;refine⟨hb g h1,?_⟩;rw[<-h2];unfold World.var?;rw[G];simp only[Y0i,k.block g h1],fun i I g hi G=>by
 have⟨h1,v,h2,h3⟩:=h.2 i I g hi G;exact⟨hb g h1,v,by rw[World.cell?_of_block (w:=w0) (k.block g h1)];exact h2,h3⟩⟩
theorem TabB.mono {P:Program} {B B':Nat->Prop} {w:World} (h:TabB P B w) (hb:∀b,B b->B' b):TabB P B' w:=h.keep (Kept.refl _ _) hb
structure Sim (P:Program) (B:Bd) (w0:World) (F:List (Array Value)) (ρ:Env) (S:St) (a:Act) (w:World):Prop where
 below:KeptD B w0 w
 tab:TabB P B w0
 hB:∀b,B b→b<w.heap.size
 defers:a.defers=[]
 nt:a.tmps.size=S.nt
 top:FrR w (ZL B S.blks ρ) ρ ⟨S.tmps,S.gds⟩ a.tmps
 blks:∀id b,Qi S.blks id=some b→BR w (ZL B S.blks ρ) ρ id b
 sep:∀i j x y,Qi S.blks i=some x→Qi S.blks j=some y→(ρ i).ph=false→(ρ j).ph=false→(ρ i).b=(ρ j).b→i=j
 ge:∀i x,Qi S.blks i=some x→(ρ i).ph=false→B.free (ρ i) x.bx
 frames:S.frames.length=F.length∧∀(i:Nat) (f:Fr) (tm:Array Value),S.frames[i]? =some f→F[i]? =some tm→FrR w (ZL B S.blks ρ) ρ f tm
theorem Sim.tabs {P:Program} {B w0 F ρ S a w} {B':Nat->Prop} (h:Sim P B w0 F ρ S a w) (hb:∀b,B b->B' b):TabB P B' w:=h.tab.keep h.below.toKept hb
theorem GR.keep {w ow ρ w' ow' ρ' tm g} (h:GR w ow ρ tm g) (k:Keep w ow w' ow') (G:∀i,g.v.mentions i=true->ρ' i=ρ i):GR w' ow' ρ' tm g:=by
 rcases h.h with h|h
 ·exact⟨.inl ⟨h.1,h.2.keep k G⟩⟩
 ·exact⟨.inr h⟩
theorem Qez {id:Nat}:∀ {ts:List (Nat×V)} {t:Nat} {v:V},Qi ts t=some v->v.mentions id=true->Jv id ts=true
 |(u,x)::r,t,v,h,hm=>by
  simp only[Qi] at h;simp only[Jv];split at h
  ·cases h;simp[hm]
  ·have:=Qez h hm;split<;>simp_all
 |[],_,_,h,_=>by simp[Qi] at h
theorem QeA {id:Nat}:∀ {gs:List Gd} {g:Gd},g∈gs->g.v.mentions id=true->Jw id gs=true
 |x::r,g,h,hm=>by
  simp only[Jw];rcases Yh.1 h with h|h
  ·subst h;simp[hm]
  ·have:=QeA h hm;split<;>simp_all
 |[],_,h,_=>by simp at h
theorem ZW {id:Nat}:∀ {bs:List (Nat×Blk)} {i:Nat} {b:Blk},Qi bs i=some b->(i=id∨b.mentions id=true)->Q4 id bs=true
 |(u,x)::r,i,b,h,hm=>by
  simp only[Qi] at h;simp only[Q4]
  cases G:Nat.beq u id
  ·dsimp only;split at h
   ·rename_i hb
    cases h
    have:=Y5 hb;subst this;rcases hm with hm|hm
    ·subst hm;simp at G
    ·simp[hm]
   ·have:=ZW h hm;split<;>simp_all
  ·simp
 |[],_,_,h,_=>by simp[Qi] at h
theorem QeB {id:Nat}:∀ {fs:List Fr} {i:Nat} {f:Fr},fs[i]? =some f->(Jv id f.tmps=true∨Jw id f.gds=true)->QcM id fs=true
 |x::r,0,f,h,hm=>by
  simp at h;subst h;simp only[QcM];rcases hm with hm|hm
  ·simp[hm]
  ·rw[hm];split<;>rfl
 |x::r,i+1,f,h,hm=>by
  have:=QeB (fs:=r) (by simpa using h) hm;simp only[QcM,this];split;rfl;split<;>rfl
 |[],_,_,h,_=>by simp at h
theorem FrR.keep {w ow ρ w' ow' ρ' f tm} (h:FrR w ow ρ f tm) (k:Keep w ow w' ow') (G:∀i,(Jv i f.tmps=true∨Jw i f.gds=true)->ρ' i=ρ i):FrR w' ow' ρ' f tm:=
 ⟨fun t v hv=>(h.tmps t v hv).keep k fun i hm=>G i (.inl (Qez hv hm)),fun g I=>(h.gds g I).keep k fun i hm=>G i (.inr (QeA I hm))⟩
structure Pure (w w':World):Prop where
 os:w'.os=w.os
 tape:w'.tape=w.tape
 output:w'.output=w.output
 size:w.heap.size≤w'.heap.size
 old:∀b,b<w.heap.size→w'.heap[b]? =w.heap[b]?
theorem Pure.refl (w:World):Pure w w:=⟨rfl,rfl,rfl,Yi _,fun _ _=>rfl⟩
theorem Pure.alloc (w:World) (o:Obj):Pure w (w.alloc o):=⟨rfl,rfl,rfl,by simp,fun k hk=>Below.heap_alloc w o k hk⟩
theorem Pure.below {w w':World} (h:Pure w w'):Below w.heap.size w w':=⟨h.os,h.tape,h.output,h.size,h.old⟩
theorem Below.pure {w w':World} (h:Below w.heap.size w w'):Pure w w':=⟨h.os,h.tape,h.output,h.size,h.block⟩
theorem BR.lt {w ow ρ id b} (h:BR w ow ρ id b) (hp:(ρ id).ph=false):(ρ id).b<w.heap.size:=by
 cases h with
 |box C h1 h2 h3 h4 h5=>exact(Yr.1 h5).1
 |arr0 h1=>rw[h1] at hp;cases hp
 |arr C et h1 h2 h3 h4 h5 h6=>exact(Yr.1 h6).1
theorem Qy2 {w ow ρ} {bs:List (Nat×Blk)} (h:∀id b,Qi bs id=some b->BR w ow ρ id b) {b:Nat} (ho:own bs ρ b):b<w.heap.size:=by
 obtain⟨id,k,hk,hp,rfl⟩:=ho;exact(h id k hk).lt hp
theorem Pure.keep {w w':World} (h:Pure w w') (ow:Nat->Prop):Keep w ow w' ow:=⟨h.size,fun b hb ho=>⟨h.old b hb,ho⟩⟩
theorem Sim.pure {P:Program} {B w0 F ρ S a w w'} (h:Sim P B w0 F ρ S a w) (p:Pure w w'):Sim P B w0 F ρ S a w' where
 below:=h.below.next p.os p.tape p.output p.size (fun k hk=>p.old k (h.hB k hk)) fun b k hc=>World.cell?_of_block (p.old b (YH (h.below.clt b k hc) h.below.size))
 tab:=h.tab
 hB:=fun b hb=>YH (h.hB b hb) p.size
 defers:=h.defers
 nt:=h.nt
 top:=h.top.keep (p.keep _) fun _ _=>rfl
 blks:=fun id b hb=>(h.blks id b hb).keep (p.keep _) rfl (fun hp=>p.old _ ((h.blks id b hb).lt hp)) fun _ _=>rfl
 sep:=h.sep
 ge:=h.ge
 frames:=⟨h.frames.1,fun i f tm G ht=>(h.frames.2 i f tm G ht).keep (p.keep _) fun _ _=>rfl⟩
end Go.Ab
namespace Go.Ab
open Go.RowKit
def QsX:Value->D->Bool
 | .int k n,.int k' m=>decide (k=k')&&decide (n=m)
 | .bool b,.bool c=>b==c
 | .string s,.str t=>decide (s=t)
 | .slice none 0 0,.nil=>true
 | .pointer none,.zn .ptr=>true
 | .nilFunc,.zn .func=>true
 | .nilIface,.zn .iface=>true
 | .map none,.zn .map=>true
 |_,_=>false
theorem Qos {w ow v d} (h:QsX v d=true):DR w ow d v:=by
 unfold QsX at h;split at h
 ·simp at h;obtain⟨rfl,rfl⟩:=h;exact .int
 ·simp at h;subst h;exact .bool
 ·simp at h;subst h;exact .str
 ·exact .nil
 ·exact .zn
 ·exact .zn
 ·exact .zn
 ·exact .zn
 ·cases h
def Qmk:List Value->List D->Bool
 |[],[]=>true
 |v::r,d::s=>QsX v d&&Qmk r s
 |_,_=>false
theorem Qjz:∀ {vs:List Value} {ds:List D},Qmk vs ds=true->vs.length=ds.length∧∀w ow j d,ds[j]? =some d->DR w ow d (vs.getD j undef)
 |[],[],_=>⟨rfl,fun _ _ j d h=>by simp at h⟩
 |v::r,d::s,h=>by
  simp only[Qmk,Y4] at h;have⟨h1,h2⟩:=Qjz h.2;refine⟨by simp[h1],fun w ow j x hj=>?_⟩
  cases j with
  |zero=>simp at hj;subst hj;simpa using Qos h.1
  |succ j=>simpa using h2 w ow j x (by simpa using hj)
 |[],_::_,h=>by simp[Qmk] at h
 |_::_,[],h=>by simp[Qmk] at h
def kOk:TK->TypeDesc->Bool
 | .bool,.bool=>true
 | .int k,.int k'=>decide (k=k')
 | .str,.string=>true
 | .ptr e,.pointer e'=>e==e'
 | .slice e,.slice e'=>e==e'
 | .struct fs, .struct fields => (fs == fields.toList.map fun f => (f.type, f.offset)) && fields.toList.all fun f => decide (f.name ≠ "_")
 | .array n e,.array n' e'=>n==n'&&e==e'
 | .map k e,.map k' e'=>k==k'&&e==e'
 | .other,.struct _=>false
 | .other,.array _ _=>false
 | .other,_=>true
 |_,_=>false
def QzL (P:Program) (t:Nat) (ti:TI):Bool:=match P.info? t,P.underlying t with
 |some i,some d=>(i.size==ti.size)&&(i.bytes==ti.bytes)&&(ti.kind.agg||ti.size==1)&&kOk ti.kind d&&
   (match i.zero with
    |some z=>Qmk z.cells.toList ti.zero&&(z.cells.size==ti.size)
    |none=>false)&&(!ti.eq||(!P.stoodInHeld t&& !P.eqGuardType P.depth t))&&
   (match d with
    | .struct fields=>fields.toList.all fun f=>(P.info? f.type).isSome
    |_=>true)
 |_,_=>false
def Tb.all (f:Nat->TI->Bool):Tb->Bool
 | .leaf=>true
 | .node k ti l r=>f k ti&&(l.all f&&r.all f)
structure TIok (P:Program) (t:Nat) (ti:TI):Prop where
 info:∃i z,P.info? t=some i∧i.size=ti.size∧i.bytes=ti.bytes∧i.zero=some z∧z.cells.size=ti.size∧ti.zero.length=ti.size∧
  (∀w ow j d,ti.zero[j]? =some d→DR w ow d (z.cells.getD j undef))
 kind:∃d,P.underlying t=some d∧kOk ti.kind d=true
 one:ti.kind.agg=true∨ti.size=1
 eq:ti.eq=true→P.stoodInHeld t=false∧P.eqGuardType P.depth t=false
 flds:∀fields,P.underlying t=some (.struct fields)→∀f∈fields.toList,(P.info? f.type).isSome=true
theorem QrL {P t ti} (h:QzL P t ti=true):TIok P t ti:=by
 unfold QzL at h;split at h
 ·rename_i i d hi I;simp only[Y4,X4,YJ] at h;obtain⟨⟨⟨⟨⟨⟨h1,h2⟩,h3⟩,h4⟩,h5⟩,h9⟩,h10⟩:=h;split at h5
  ·rename_i z U;simp only[Y4,X4] at h5;have⟨h6,J⟩:=Qjz h5.1;refine⟨⟨i,z,hi,h1,h2,U,h5.2,?_,fun w ow j d hj=>?_⟩,⟨d,I,h4⟩,h3,fun O=>by simpa[O] using h9,fun fields G=>by rw[I] at G;cases G;exact Yb.1 h10⟩
   ·have:=h5.2;simp at h6;omega
   ·have:=J w ow j d hj;simpa using this
  ·cases h5
 ·cases h
structure TOk (P:Program) (tb:Tb):Prop where
 ok:∀t ti,tb.find t=some ti→TIok P t ti
theorem Tb.all_find {f:Nat->TI->Bool}:∀ {tb:Tb} {t ti},tb.all f=true->tb.find t=some ti->f t ti=true
 | .node k x l r,t,ti,h,G=>by
  simp only[Tb.all,Y4] at h;simp only[Tb.find] at G;split at G
  ·rename_i hb
   cases G
   rw[Y5 hb];exact h.1
  ·split at G
   ·exact Tb.all_find h.2.1 G
   ·exact Tb.all_find h.2.2 G
 | .leaf,_,_,_,G=>by simp[Tb.find] at G
theorem TOk.of {P tb} (h:tb.all (QzL P)=true):TOk P tb:=⟨fun _ _ G=>QrL (Tb.all_find h G)⟩
variable {P:Program} {tb:Tb} {w:World} {ow:Nat→Prop} {ρ:Env}
theorem Qie {t ti} (h:TIok P t ti) (w:World):(isAgg t).run P w=.ok ti.kind.agg w:=by
 have⟨d,I,hk⟩:=h.kind;unfold isAgg;rw[Sem.run_bind,run_underlying I w]
 cases G:ti.kind<;>rw[G] at hk<;>cases d<;>simp_all [kOk,TK.agg]
theorem Jk {t ti} (h:TIok P t ti) (w:World):(sizeOf t).run P w=.ok ti.size w:=by
 have⟨i,z,hi,hs,_⟩:=h.info;simp[sizeOf,typeInfo,hi,hs]
theorem Qfo {t ti} (I:TIok P t ti) (b o:Nat) (vals:Nat->Value) (hc:∀j,j<ti.size->w.cell? ⟨b,o+j,none⟩=some (vals j)) (cs:List V) (hl:ti.size<=cs.length)
  (hv:∀j v,cs[j]? =some v->VR w ow ρ v (vals j)) (h1:∀j,j<ti.size->(vals j).oneCell'=true):
  ∃v,(loadVar t ⟨b,o,none⟩).run P w=.ok v w∧VR w ow ρ (Qhv ti.kind.agg ti.size cs) v:=by
 have G:=Qie I w;have Y:=Jk I w
 cases hk:ti.kind.agg with
 |true=>
  rw[hk] at G;have U:=run_loadCells (P:=P) w ⟨b,o,none⟩ ti.size vals (fun j hj=>by rw[Addr.add_mid];exact hc j hj);refine⟨.agg ((List.range ti.size).map vals).toArray,by simp[loadVar,Sem.run_bind,G,Y,U],?_⟩;simp only[Qhv];refine .agg (by simp;omega) (fun j hj=>?_) fun j v hj=>?_
  ·simp at hj;simpa[hj] using h1 j hj
  ·rw[YQ] at hj;split at hj
   ·rename_i O;simpa[O] using hv j v hj
   ·cases hj
 |false=>
  rw[hk] at G;have h0:ti.size=1:=by rcases I.one with h|h;rw[hk] at h;cases h;exact h
  have J:=hc 0 (by omega);rw[X0] at J;refine⟨vals 0,by simp[loadVar,Sem.run_bind,G,J],?_⟩
  cases cs with
  |nil=>simp at hl;omega
  |cons v r=>exact hv 0 v (by simp)
theorem Qcc {w:World} {b o:Nat} {C:Array Value} {t fz} (G:w.heap[b]? =some (.cells C t fz)) (h:o<C.size):w.cell? ⟨b,o,none⟩=some (C.getD o undef):=by
 simp[World.cell?,G,h]
theorem QjA {t ti p val} {blk:Nat->Option Blk} {K:V->Prop} (J:TIok P t ti) (hb:∀id b,blk id=some b->BR w ow ρ id b) (hp:VR w ow ρ p val) (h:QdN ti blk p K):
  ∃v x,(Instr.loadAt t val).run P w=.ok v w∧VR w ow ρ x v∧K x:=by
 unfold QdN at h;split at h
 ·rename_i id row off
  cases hp with
  |ref Y hrow=>
  split at h
  ·rename_i t' cs I;split at h
   ·rename_i G;have G:=Ys G;rw[QC] at h
    cases hb _ _ I with
    |box C h1 h2 h3 h4 h5 h6 h7 h8=>
    have e:(ρ id).o+0*(ρ id).sz+off=(ρ id).o+off:=by omega
    rw[e];have h6:=h6.1;have⟨v,hv,U⟩:=Qfo (P:=P) (w:=w) (ow:=ow) (ρ:=ρ) J (ρ id).b ((ρ id).o+off) (fun j=>C.getD ((ρ id).o+(off+j)) undef) (fun j hj=>by rw[Xi];exact Qcc h5 (by omega)) (cs.drop off) (by simp;omega)
     (fun j v hj=>by rw[YR] at hj;exact h8 _ _ hj) (fun j hj=>h7 _ (by omega))
    exact⟨v,_,by simpa[Instr.loadAt,Instr.sureAddr] using hv,U,h⟩
   ·cases h.no
  ·rename_i t' sz n O I;split at h
   ·rename_i G;have G:=Ys G;rw[QC] at h
    cases hb _ _ I with
    |arr0 h1=>rw[h1] at Y;cases Y
    |arr C et h1 h2 h3 h4 h5 h6 h7 h8=>
    have hlen:=h5 row (by omega);have hbig:(ρ id).o+row*sz+sz<=C.size:=by
     have:(row+1)*sz<=(ρ id).cap*sz:=Yf _ (by omega);have:(row+1)*sz=row*sz+sz:=by rw[Yj];omega
     omega
    have⟨v,hv,U⟩:=Qfo (P:=P) (w:=w) (ow:=ow) (ρ:=ρ) J (ρ id).b ((ρ id).o+row*(ρ id).sz+off) (fun j=>C.getD ((ρ id).o+row*(ρ id).sz+off+j) undef)
     (fun j hj=>Qcc h6 (by rw[h2];omega)) (((O row).drop off).map .d) (by simp;omega)
     (fun j v hj=>by
      rw[Yz,YR] at hj;obtain⟨d,hd,rfl⟩:=Yc.1 hj;have:=h8 row (off+j) d (by omega) hd;rw[h2,Xi];exact .d this)
     (fun j hj=>by
      have a1:off+j<(O row).length:=by omega
      have:=(h8 row (off+j) _ (by omega) (Y7 a1)).oneCell;rw[h2,Xi];exact this)
    exact⟨v,_,by simpa[Instr.loadAt,Instr.sureAddr] using hv,U,h⟩
   ·cases h.no
  ·cases h.no
 ·rename_i cs;split at h
  ·rename_i G;have G:=Ys G;rw[QC] at h
   cases hp with
   |rp vals ho hbl hc hd=>
   rename_i b o;have⟨v,hv,U⟩:=Qfo (P:=P) (w:=w) (ow:=ow) (ρ:=ρ) J b o vals (fun j hj=>hc j _ (Y7 (by omega))) (cs.map .d) (by simpa using G)
    (fun j v hj=>by
     rw[Yz] at hj;obtain⟨d,a2,rfl⟩:=Yc.1 hj;exact .d (hd j d a2))
    (fun j hj=>(hd j _ (Y7 (by omega))).oneCell)
   exact⟨v,_,by simpa[Instr.loadAt,Instr.sureAddr] using hv,U,h⟩
  ·cases h.no
 ·cases h.no
def Qw4 (w:World) (ow:Nat->Prop) (ρ:Env) (agg:Bool) (xs:List V) (a:Value):Prop:=match agg with
 |true=>∃cs,a=.agg cs∧cs.size=xs.length∧∀j v,xs[j]? =some v->VR w ow ρ v (cs.getD j undef)
 |false=>∃v,xs.head? =some v∧VR w ow ρ v a
theorem QiV {t ti} (G:TIok P t ti) {cs:Array Value} {xs:List V} (hs:cs.size=xs.length) (hv:∀j v,xs[j]? =some v->VR w ow ρ v (cs.getD j undef)) (o:Nat) (ho:o+ti.size<=xs.length):
  ∃a,(∀w',(part t cs o).run P w'=.ok a w')∧Qw4 w ow ρ ti.kind.agg ((xs.drop o).take ti.size) a:=by
 cases hk:ti.kind.agg with
 |true=>
  refine⟨.agg (cs.extract o (o+ti.size)),fun w'=>?_,cs.extract o (o+ti.size),rfl,by simp;omega,fun j v hj=>?_⟩
  ·have:=Qie G w';rw[hk] at this;simp[part,this,Jk G]
  ·rw[YQ] at hj;split at hj
   ·rename_i I;rw[YR] at hj;have:=hv _ _ hj;simp only[Y6,Array.getElem?_extract] at this|-;rw[Y2 (by omega)];exact this
   ·cases hj
 |false=>
  have J:ti.size=1:=by rcases G.one with h|h;rw[hk] at h;cases h;exact h
  have I:o<cs.size:=by omega
  refine⟨cs.getD o undef,fun w'=>?_,xs[o]'(by omega),?_,hv o _ (Y7 (by omega))⟩
  ·have:=Qie G w';rw[hk] at this;simp[part,this,I]
  ·rw[J,List.head?_take];simp[List.head?_drop,show o<xs.length by omega]
theorem Qfp {t ti fs} (G : TIok P t ti) (hk : ti.kind = .struct fs) : ∃ fields, P.underlying t = some (.struct fields) ∧ fs = fields.toList.map (fun f => (f.type, f.offset)) ∧ ∀ f ∈ fields.toList, f.name ≠ "_" := by
 have⟨d,I,h⟩:=G.kind;rw[hk] at h
 cases d<;>simp only[kOk] at h<;>first|cases h|skip
 rename_i fields;simp only[Y4,X4,Yb,Ym] at h;exact⟨fields,I,h.1,h.2⟩
theorem Qkc {t ti k} (G:TIok P t ti) (hk:ti.kind=.int k):P.underlying t=some (.int k):=by
 have⟨d,I,h⟩:=G.kind;rw[hk] at h
 cases d<;>simp only[kOk] at h<;>first|cases h|skip
 simp at h;rw[I,h]
theorem QkV {t ti} (G:TIok P t ti) (hk:ti.kind=.bool):P.underlying t=some .bool:=by
 have⟨d,I,h⟩:=G.kind;rw[hk] at h
 cases d<;>simp only[kOk] at h<;>first|exact I|cases h
theorem QgM {t ti} (G:TIok P t ti) (hk:ti.kind=.str):P.underlying t=some .string:=by
 have⟨d,I,h⟩:=G.kind;rw[hk] at h
 cases d<;>simp only[kOk] at h<;>first|exact I|cases h
theorem ZX {t ti e} (G:TIok P t ti) (hk:ti.kind=.slice e):P.underlying t=some (.slice e):=by
 have⟨d,I,h⟩:=G.kind;rw[hk] at h
 cases d<;>simp only[kOk] at h<;>first|cases h|skip
 simp at h;rw[I,h]
theorem Qml {f:TypeId->List V->List V->Option Bool} (hT:TOk P tb) (m:Nat)
  (hf:∀t ti xs ys e a b w',tb.find t=some ti->f t xs ys=some e->Qw4 w ow ρ ti.kind.agg xs a->Qw4 w ow ρ ti.kind.agg ys b->(Op.equalIn m t a b).run P w'=.ok e w')
  {cs ds:Array Value} {xs ys:List V} (h1:cs.size=xs.length) (h2:ds.size=ys.length)
  (U:∀j v,xs[j]? =some v->VR w ow ρ v (cs.getD j undef)) (hy:∀j v,ys[j]? =some v->VR w ow ρ v (ds.getD j undef)) (w':World):
  ∀ (O : List Field) (e : Bool), (∀ g ∈ O, g.name ≠ "_") -> Qy1 f tb (O.map fun g => (g.type, g.offset)) xs ys = some e -> (Op.eqFields m cs ds O).run P w' = .ok e w'
 |[],e,_,h=>by simp[Qy1] at h;subst h;simp[Op.eqFields]
 |g::O,e,hn,h=>by
  simp only[YC,Qy1] at h;split at h
  ·rename_i ti J;split at h
   ·rename_i G I;have G:=Ys G;have I:=Ys I;split at h
    ·rename_i a b ha hb;simp at h;subst h;have⟨va,a1,a3⟩:=QiV (hT.ok _ _ J) h1 U g.offset G;have⟨vb,Y,a2⟩:=QiV (hT.ok _ _ J) h2 hy g.offset I;have he:=hf _ _ _ _ _ _ _ w' J ha a3 a2;have ih:=Qml hT m hf h1 h2 U hy w' O b (fun x U=>hn x (by simp[U])) hb;simp only[Op.eqFields,Y2 (hn g (by simp)),Sem.run_bind,a1,Y,Result.andThen_ok,he]
     cases a<;>simp[ih]
    ·cases h
   ·cases h
  ·cases h
theorem Qot (hT:TOk P tb):∀(n m:Nat),n<=m->∀t ti xs ys e a b w',tb.find t=some ti->eqT tb n t xs ys=some e->Qw4 w ow ρ ti.kind.agg xs a->Qw4 w ow ρ ti.kind.agg ys b->
  (Op.equalIn m t a b).run P w'=.ok e w'
 |0,_,_,_,_,_,_,_,_,_,_,_,h,_,_=>by simp[eqT] at h
 |n+1,0,hm,_,_,_,_,_,_,_,_,_,_,_,_=>by omega
 |n+1,m+1,hm,t,ti,xs,ys,e,a,b,w',hti,h,ha,hb=>by
  simp only[eqT,hti] at h;have U:=hT.ok _ _ hti;split at h
  ·rename_i fs s a2 z J
   cases J
   have⟨fields,Y,a5,a4⟩:=Qfp U rfl;simp only[TK.agg,Qw4] at ha hb;obtain⟨cs,rfl,h1,hx⟩:=ha;obtain⟨ds,rfl,h2,hy⟩:=hb;have a3:P.fieldsOf t=fields:=by simp[Program.fieldsOf,Y]
   rw[run_equalIn_struct w' m t cs ds (by rw[a3];exact Y) (U.eq rfl).1,a3];rw[a5] at h;exact Qml hT m (fun t ti xs ys e a b w' h1 h2 h3 h4=>Qot hT n m (by omega) t ti xs ys e a b w' h1 h2 h3 h4) h1 h2 hx hy w' _ e a4 h
  ·rename_i k s a2 z q J
   cases J
   have Y:=Qkc U rfl;split at h
   ·rename_i k1 x r k2 y r';split at h
    case h_2=>cases h
    rename_i a1;have a1:k1=k2:=by simpa using a1
    subst a1;simp at h;subst h;have⟨v,hv,O⟩:=ha;have⟨v',I,G⟩:=hb;simp at hv I;subst hv I
    cases O with|d O=>cases O with|int=>
    cases G with|d G=>cases G with|int=>
    exact run_equalIn_int w' m t _ _ _ _ Y
   ·cases h
  ·rename_i s a2 z q J
   cases J
   have Y:=QkV U rfl;split at h
   ·simp at h;subst h;have⟨v,hv,O⟩:=ha;have⟨v',I,G⟩:=hb;simp at hv I;subst hv I
    cases O with|d O=>cases O with|bool=>
    cases G with|d G=>cases G with|bool=>
    exact run_equalIn_bool w' m t _ _ Y
   ·cases h
  ·rename_i s a2 z q J
   cases J
   have Y:=QgM U rfl;split at h
   ·simp at h;subst h;have⟨v,hv,O⟩:=ha;have⟨v',I,G⟩:=hb;simp at hv I;subst hv I
    cases O with|d O=>cases O with|str=>
    cases G with|d G=>cases G with|str=>
    rw[run_equalIn_string w' m t _ _ Y,beq_toListBytes]
   ·cases h
  ·cases h
end Go.Ab
namespace Go.Ab
open Go.RowKit
variable {P:Program} {tb:Tb} {w:World} {ow:Nat→Prop} {ρ:Env} {a:Act} {ev:List (Nat×Bool)→Operand→V} {blk:Nat→Option Blk} {sc:Prop→Prop} {K:V→Prop}
structure EvR (w:World) (ow:Nat→Prop) (ρ:Env) (a:Act) (ev:List (Nat×Bool)→Operand→V):Prop where
 h:∀al x,(∀k g,(k,g)∈al→a.tmps.getD k undef=.bool g)→VR w ow ρ (ev al x) (a.eval x)
theorem EvR.at (h:EvR w ow ρ a ev) (x:Operand):VR w ow ρ (ev [] x) (a.eval x):=h.h [] x fun _ _ hm=>by cases hm
theorem EvR.eq (h:EvR w ow ρ a ev) {x:Operand} {v:V} (e:ev [] x=v):VR w ow ρ v (a.eval x):=e▸h.at x
def RunsTo (P:Program) (w:World) (ow:Nat->Prop) (ρ:Env) (r:Sem Value) (K:V->Prop):Prop:=
 ∃v w' x,r.run P w=.ok v w'∧Pure w w'∧VR w' ow ρ x v∧K x
theorem RunsTo.same {r:Sem Value} {v x} (h:r.run P w=.ok v w) (I:VR w ow ρ x v) (G:K x):RunsTo P w ow ρ r K:=⟨v,w,x,h,.refl w,I,G⟩
theorem QpN {op k x y t} (G:∀p,sc p->p) (h:QkU sc op k x y K):RunsTo P w ow ρ (binOp op t (.int k x) (.int k y)) K:=by
 cases op<;>simp only[QkU] at h
 case add=>exact .same (by rw[binOp_add];rfl) (.d .int) h
 case sub=>exact .same (by rw[binOp_sub];rfl) (.d .int) h
 case mul=>exact .same (by rw[binOp_mul];rfl) (.d .int) h
 case quo=>exact .same (by rw[binOp_quo];simp[Op.intDiv,G _ h.1]) (.d .int) h.2
 case rem=>exact .same (by rw[binOp_rem];simp[Op.intDiv,G _ h.1]) (.d .int) h.2
 case and=>exact .same (by rw[binOp_and,intBits_and];rfl) (.d .int) h
 case or=>exact .same (by rw[binOp_or,intBits_or];rfl) (.d .int) h
 case xor=>exact .same (by rw[binOp_xor,intBits_xor];rfl) (.d .int) h
 case andNot=>exact .same (by rw[binOp_andNot,intBits_andNot];rfl) (.d .int) h
 case eql=>exact .same (by rw[binOp_eql];rfl) (.d .bool) h
 case neq=>exact .same (by rw[binOp_neq];rfl) (.d .bool) h
 case lss=>exact .same (by rw[binOp_lss];rfl) (.d .bool) h
 case leq=>exact .same (by rw[binOp_leq];rfl) (.d .bool) h
 case gtr=>exact .same (by rw[binOp_gtr];rfl) (.d .bool) h
 case geq=>exact .same (by rw[binOp_geq];rfl) (.d .bool) h
 case shl=>exact .same (by simp[binOp,Op.shift,Int.not_lt.2 (G _ h.1)]) (.d .int) h.2
 case shr=>exact .same (by simp[binOp,Op.shift,Int.not_lt.2 (G _ h.1)]) (.d .int) h.2
theorem VR.agg_inv {vs v} (h:VR w ow ρ (.agg vs) v):∃cs,v=.agg cs∧cs.size=vs.length∧(∀j,j<cs.size->(cs.getD j undef).oneCell'=true)∧∀j u,vs[j]? =some u->VR w ow ρ u (cs.getD j undef):=by
 cases h with|agg h1 h2 h3=>exact⟨_,rfl,h1,h2,h3⟩
theorem QpO {ti t} (G:TIok P t ti) {xs:List V} {a:Value} (o:Nat) (h:Qw4 w ow ρ ti.kind.agg ((xs.drop o).take ti.size) a) (h1:ti.kind.agg=true->∀cs,a=.agg cs->∀j,j<cs.size->(cs.getD j undef).oneCell'=true):
  VR w ow ρ (Qhv ti.kind.agg ti.size (xs.drop o)) a:=by
 cases hk:ti.kind.agg with
 |true=>
  rw[hk] at h;obtain⟨cs,rfl,h2,h3⟩:=h;exact .agg h2 (h1 hk cs rfl) h3
 |false=>
  rw[hk] at h;have J:ti.size=1:=by rcases G.one with h|h;rw[hk] at h;cases h;exact h
  have⟨v,hv,O⟩:=h;rw[J] at hv
  cases I:xs.drop o with
  |nil=>rw[I] at hv;simp at hv
  |cons u r=>rw[I] at hv;simp at hv;subst hv;exact O
theorem Qgn {α:Type}:∀(l:List α) (o:Nat) (xs:List α) (j:Nat),o+xs.length<=l.length->(QcO l o xs)[j]? =if o<=j∧j<o+xs.length then xs[j-o]? else l[j]?
 |l,o,[],j,_=>by
  have:¬(o<=j∧j<o+([]:List α).length):=by simp
  rw[Y0 this];simp[QcO]
 |[],o,x::xs,j,h=>by simp at h
 |a::r,0,x::xs,j,h=>by
  simp only[QcO]
  cases j with
  |zero=>simp
  |succ j=>
   have:=Qgn r 0 xs j (by simp at h|-;omega);simp only[XS,this,Ye]
   by_cases hj:j<xs.length
   ·rw[Y2 ⟨by omega,by omega⟩,Y2 ⟨by omega,by omega⟩];simp
   ·rw[Y0 (by omega),Y0 (by omega)]
 |a::r,o+1,x::xs,j,h=>by
  simp only[QcO]
  cases j with
  |zero=>simp
  |succ j=>
   have:=Qgn r o (x::xs) j (by simp at h|-;omega);simp only[XS,this]
   by_cases hj:o<=j∧j<o+(x::xs).length
   ·rw[Y2 hj,Y2 ⟨by omega,by omega⟩,show j+1-(o+1)=j-o by omega]
   ·rw[Y0 hj,Y0 (by omega)]
theorem Qbv {α:Type}:∀(l:List α) (o:Nat) (xs:List α),(QcO l o xs).length=l.length
 |l,o,[]=>by simp[QcO]
 |[],o,x::xs=>by simp[QcO]
 |a::r,0,x::xs=>by simp[QcO,Qbv r 0 xs]
 |a::r,o+1,x::xs=>by simp[QcO,Qbv r o (x::xs)]
theorem QpP {v:V} {x:Value} (h:VR w ow ρ v x) (hs:v.storable=true):
  x.cells.size=v.cells.length∧(∀j,j<x.cells.size->(x.cells.getD j undef).oneCell'=true)∧∀j u,v.cells[j]? =some u->VR w ow ρ u (x.cells.getD j undef):=by
 have one:∀(y:Value) (u:V),y.cells=#[y]->y.oneCell'=true->VR w ow ρ u y->
   y.cells.size=[u].length∧(∀j,j<y.cells.size->(y.cells.getD j undef).oneCell'=true)∧∀j t,[u][j]? =some t->VR w ow ρ t (y.cells.getD j undef):=by
  intro y u hc ho hv;rw[hc];refine⟨rfl,fun j hj=>?_,fun j t hj=>?_⟩
  ·have:j=0:=by simp at hj;exact hj
   subst this;simpa using ho
  ·cases j with
   |zero=>simp at hj;subst hj;simpa using hv
   |succ j=>simp at hj
 cases h with
 |any=>cases hs
 |tup=>cases hs
 |d h=>exact one _ _ h.cells1 h.oneCell (.d h)
 |ref h1 h2=>exact one _ _ rfl rfl (.ref h1 h2)
 |osl0 h1 h2=>exact one _ _ rfl rfl (.osl0 h1 h2)
 |osl h1 h2 h3=>exact one _ _ rfl rfl (.osl h1 h2 h3)
 |rp v h1 h2 h3 h4=>exact one _ _ rfl rfl (.rp v h1 h2 h3 h4)
 |agg h1 h2 h3=>exact⟨h1,h2,h3⟩
 |fn h1 h3=>exact one _ _ rfl rfl (.fn h1 h3)
structure ListR (w:World) (ow:Nat→Prop) (ρ:Env) (vs:List V) (cs:Array Value):Prop where
 size:cs.size=vs.length
 one:∀j,j<cs.size→(cs.getD j undef).oneCell'=true
 vals:∀j u,vs[j]? =some u→VR w ow ρ u (cs.getD j undef)
theorem Qif:∀(l:List Value) (o i:Nat) (cs:Array Value),o+i+l.length<=cs.size->
  ((l.zipIdx i).foldl (fun cs (x:Value×Nat)=>cs.setIfInBounds (o+x.2) x.1) cs).size=cs.size∧
  ∀j,((l.zipIdx i).foldl (fun cs (x:Value×Nat)=>cs.setIfInBounds (o+x.2) x.1) cs).getD j undef=if o+i<=j∧j<o+i+l.length then l.getD (j-(o+i)) undef else cs.getD j undef
 |[],o,i,cs,h=>by
  refine⟨rfl,fun j=>?_⟩;have:¬(o+i<=j∧j<o+i+([]:List Value).length):=by simp
  rw[Y0 this];rfl
 |v::r,o,i,cs,h=>by
  simp only[List.zipIdx_cons,Y0o,Ye] at*;have⟨h1,h2⟩:=Qif r o (i+1) (cs.setIfInBounds (o+i) v) (by simp;omega);refine⟨by rw[h1];simp,fun j=>?_⟩;rw[h2 j]
  by_cases hj:j=o+i
  ·subst hj;rw[Y0 (by omega),Y2 ⟨by omega,by omega⟩];simp[Y6,show o+i<cs.size by omega]
  ·by_cases G:o+(i+1)<=j∧j<o+(i+1)+r.length
   ·rw[Y2 G,Y2 ⟨by omega,by omega⟩];rw[show j-(o+i)=(j-(o+(i+1)))+1 by omega];simp
   ·rw[Y0 G,Y0 (by omega)];simp[Y6,show ¬o+i=j by omega]
theorem ListR.set {vs G:List V} {cs ds:Array Value} (h:ListR w ow ρ vs cs) (k:ListR w ow ρ G ds) (o:Nat) (ho:o+G.length<=vs.length):
  ListR w ow ρ (QcO vs o G) (ds.zipIdx.foldl (fun cs (c,j)=>cs.setIfInBounds (o+j) c) cs):=by
 have e:ds.zipIdx.foldl (fun cs (x:Value×Nat)=>cs.setIfInBounds (o+x.2) x.1) cs=(ds.toList.zipIdx 0).foldl (fun cs (x:Value×Nat)=>cs.setIfInBounds (o+x.2) x.1) cs:=by
  rw[<-Array.foldl_toList,Array.toList_zipIdx]
 have hsz:=h.size;have J:=k.size;have⟨h1,h2⟩:=Qif ds.toList o 0 cs (by simp;omega);show ListR w ow ρ (QcO vs o G) (ds.zipIdx.foldl (fun cs (x:Value×Nat)=>cs.setIfInBounds (o+x.2) x.1) cs);rw[e];refine⟨by rw[h1,Qbv];exact h.size,fun j hj=>?_,fun j u hj=>?_⟩
 ·rw[h1] at hj;rw[h2]
  by_cases I:o+0<=j∧j<o+0+ds.toList.length
  ·rw[Y2 I];have:=k.one (j-(o+0)) (by simp at I;omega);simpa using this
  ·rw[Y0 I];exact h.one j hj
 ·rw[Qgn _ _ _ _ ho] at hj;rw[h2];have hl:ds.toList.length=G.length:=by simpa using J
  by_cases hc:o<=j∧j<o+G.length
  ·rw[Y2 hc] at hj;rw[Y2 (by omega)];have:=k.vals _ _ hj;simpa using this
  ·rw[Y0 hc] at hj;rw[Y0 (by omega)];exact h.vals _ _ hj
theorem Qea {v:V} {x:Value} (h:VR w ow ρ v x) (hs:v.storable=true):ListR w ow ρ v.cells x.cells:=by
 have⟨h1,h2,h3⟩:=QpP h hs;exact⟨h1,h2,h3⟩
theorem Qkd {fields:Array Field} {f:Nat} {t o:Nat} (h:(fields.toList.map fun f=>(f.type,f.offset))[f]? =some (t,o)):∃G,fields[f]? =some G∧G.type=t∧G.offset=o:=by
 rw[Yz] at h;have⟨G,h1,h2⟩:=Yc.1 h;simp only[YY] at h2;exact⟨G,by simpa using h1,h2.1,h2.2⟩
theorem Qmm (hT:TOk P tb) {fields:Array Field} {fs:List (TypeId×Nat)} (a1:fs=fields.toList.map fun f=>(f.type,f.offset)) (G:Array (Nat×Nat))
  (O:G.size=fields.size∧∀(i:Nat) (I:Field),fields[i]? =some I->∀ti,tb.find I.type=some ti->G[i]? =some (I.offset,ti.size)):
  ∀(pv:List (Nat×V)) (pr:List (Nat×Value)) (vs:List V) (cs:Array Value) (out:List V),
   pv.map (·.1)=pr.map (·.1)->(∀(j:Nat) (x:Nat×V) (y:Nat×Value),pv[j]? =some x->pr[j]? =some y->VR w ow ρ x.2 y.2)->ListR w ow ρ vs cs->QrJ fs tb vs pv=some out->
   ∃ds,Instr.fill (G[·]?) cs pr=some ds∧ListR w ow ρ out ds
 |[],[],vs,cs,out,_,_,hl,h=>by simp only[QrJ,Y9] at h;subst h;exact⟨cs,rfl,hl⟩
 |[],_::_,_,_,_,h,_,_,_=>by simp at h
 |_::_,[],_,_,_,h,_,_,_=>by simp at h
 |(i,v)::pv,(i',y)::pr,vs,cs,out,hk,hr,hl,h=>by
  simp only[YC,List.cons.injEq] at hk;obtain⟨rfl,hk⟩:=hk;simp only[QrJ] at h;split at h
  ·rename_i t o hf;rw[a1] at hf;obtain⟨I,U,rfl,rfl⟩:=Qkd hf;split at h
   ·rename_i ti a3;split at h
    ·rename_i J a2;simp only[Y4] at J;have a2:=Ys a2;have hsz:=Y5 J.2;have hv:VR w ow ρ v y:=hr 0 (i,v) (i,y) rfl rfl;have Y:=Qea hv J.1;have hp:=O.2 i I U ti a3;have hs':=Y.size;have hls:=hl.size;have⟨ds,h1,h2⟩:=Qmm hT a1 G O pv pr (QcO vs I.offset v.cells) _ out hk (fun j x y hx hy=>hr (j+1) x y (by simpa using hx) (by simpa using hy)) (hl.set Y I.offset (by omega)) h;refine⟨ds,?_,h2⟩;simp only[Instr.fill,hp];rw[Y0 (by simp;omega)];exact h1
    ·cases h
   ·cases h
  ·cases h
theorem QkW {sz:Nat}:∀(i:Nat) (pv:List (Nat×V)) (pr:List (Nat×Value)) (rs:List (List D)) (G:Array Value) (m:Nat),
  pv.map (·.1)=pr.map (·.1)->(∀(j:Nat) (x:Nat×V) (y:Nat×Value),pv[j]? =some x->pr[j]? =some y->VR w ow ρ x.2 y.2)->Qop sz i pv=some rs->G.size=m*sz->i+rs.length<=m->
  ∃ds,Instr.fill (fun i=>some (i*sz,sz)) G pr=some ds∧ds.size=G.size∧(∀k r,rs[k]? =some r->r.length=sz∧∀j d,r[j]? =some d->DR w ow d (ds.getD ((i+k)*sz+j) undef))∧
   ∀j,j<i*sz->ds.getD j undef=G.getD j undef
 |i,[],[],rs,G,m,_,_,h,hz,hm=>by
  simp only[Qop,Y9] at h;subst h;exact⟨G,rfl,rfl,fun k r hk=>by simp at hk,fun _ _=>rfl⟩
 |i,[],_::_,_,_,_,h,_,_,_,_=>by simp at h
 |i,_::_,[],_,_,_,h,_,_,_,_=>by simp at h
 |i,(k,v)::pv,(k',y)::pr,rs,G,m,hk,hr,h,hz,hm=>by
  simp only[YC,List.cons.injEq] at hk;obtain⟨rfl,hk⟩:=hk;simp only[Qop] at h;split at h
  ·rename_i ds a8 U;have a4:=Y5 a8;subst a4;split at h
   ·rename_i a7 b2 Y;simp only[Y9] at h;subst h;have J:=Y5 b2;simp only[Ye] at hm;have hv:VR w ow ρ v.fnD y:=(hr 0 (k,v) (k,y) rfl rfl).toD;have a5:v.fnD.storable=true:=by
     generalize v.fnD=u at U
     cases u<;>simp[V.cells,QrI] at U<;>rfl
    have a1:=Qea hv a5;have a6:∀(l:List V) (es:List D),QrI l=some es->es.length=l.length∧∀(j:Nat) (d:D),es[j]? =some d->l[j]? =some (V.d d):=by
     intro l
     induction l with
     |nil=>intro es I;simp[QrI] at I;subst I;exact⟨rfl,fun j d h=>by simp at h⟩
     |cons u r ih=>
      intro es I
      cases u<;>simp only[QrI] at I<;>first|cases I|skip
      rename_i d0;split at I
      ·rename_i xs a9;simp only[Y9] at I;subst I;have⟨i1,i2⟩:=ih xs a9;refine⟨by simp[i1],fun j d hj=>?_⟩
       cases j with
       |zero=>simp at hj;subst hj;simp
       |succ j=>simpa using i2 j d (by simpa using hj)
      ·cases I
    have⟨e1,e2⟩:=a6 _ _ U;have hsize:y.cells.size=sz:=by rw[a1.size,<-e1,J]
    have hmul:k*sz+sz<=m*sz:=by
     have:(k+1)*sz<=m*sz:=Yf _ (by omega);rw[Yj] at this;omega
    have O:=Qif y.cells.toList (k*sz) 0 G (by simp;omega);have e:y.cells.zipIdx.foldl (fun cs (x:Value×Nat)=>cs.setIfInBounds (k*sz+x.2) x.1) G=(y.cells.toList.zipIdx 0).foldl (fun cs (x:Value×Nat)=>cs.setIfInBounds (k*sz+x.2) x.1) G:=by
     rw[<-Array.foldl_toList,Array.toList_zipIdx]
    have⟨a3,h1,h2,h3,h4⟩:=QkW (k+1) pv pr a7 (y.cells.zipIdx.foldl (fun cs (x:Value×Nat)=>cs.setIfInBounds (k*sz+x.2) x.1) G) m hk
     (fun j x y hx hy=>hr (j+1) x y (by simpa using hx) (by simpa using hy)) Y (by rw[e,O.1];exact hz) (by omega)
    have a2:∀j,j<(k+1)*sz->a3.getD j undef=if k*sz+0<=j∧j<k*sz+0+y.cells.toList.length then y.cells.toList.getD (j-(k*sz+0)) undef else G.getD j undef:=by
     intro j hj;rw[h4 j hj,e,O.2]
    have hmul2:(k+1)*sz=k*sz+sz:=by rw[Yj];omega
    refine⟨a3,?_,by rw[h2,e,O.1],fun q r hq=>?_,fun j hj=>?_⟩
    ·simp only[Instr.fill];rw[Y0 (by simp;omega)];exact h1
    ·cases q with
     |zero=>
      simp at hq;subst hq;refine⟨J,fun j d hj=>?_⟩;have hjl:j<sz:=by
       have:=(Y8.1 hj).1;omega
      rw[X0,a2 _ (by omega),Y2 (by simp;omega)];have:=a1.vals j _ (e2 j d hj)
      cases this with|d this=>
      rw[show k*sz+j-(k*sz+0)=j by omega];simpa using this
     |succ q=>
      have:=h3 q r (by simpa using hq);rw[show k+(q+1)=k+1+q by omega];exact this
    ·rw[a2 j (by omega),Y0 (by omega)]
   ·cases h
  ·cases h
end Go.Ab
namespace Go.Ab
open Go.RowKit
variable {P:Program} {tb:Tb} {w:World} {ow:Nat→Prop} {ρ:Env} {a:Act} {ev:List (Nat×Bool)→Operand→V} {blk:Nat→Option Blk} {sc:Prop→Prop} {K:V→Prop}
theorem VR.int_inv {k n v} (h:VR w ow ρ (.d (.int k n)) v):v=.int k n:=by cases h with|d h=>cases h;rfl
theorem VR.bool_inv {b v} (h:VR w ow ρ (.d (.bool b)) v):v=.bool b:=by cases h with|d h=>cases h;rfl
theorem VR.str_inv {s v} (h:VR w ow ρ (.d (.str s)) v):v=.string s:=by cases h with|d h=>cases h;rfl
theorem VR.zn_inv {v} (h:VR w ow ρ (.d (.zn .ptr)) v):v=.pointer none:=by cases h with|d h=>cases h;rfl
theorem QgN {t ti e} (G:TIok P t ti) (hk:ti.kind=.ptr e):P.underlying t=some (.pointer (P.pointee t)):=by
 have⟨d,I,h⟩:=G.kind;rw[hk] at h
 cases d<;>simp only[kOk] at h<;>first|cases h|skip
 rw[I];simp[Program.pointee,I]
theorem VR.ref_inv {id row off v} (h:VR w ow ρ (.ref id row off) v):v=.pointer (some ⟨(ρ id).b,(ρ id).o+row*(ρ id).sz+off,none⟩)∧(ρ id).ph=false∧row<(ρ id).n:=by
 cases h with|ref h1 h2=>exact⟨rfl,h1,h2⟩
theorem VR.rp_inv {cells v} (h:VR w ow ρ (.rp cells) v):∃(b o:Nat) (vals:Nat->Value),v=.pointer (some ⟨b,o,none⟩)∧¬ow b∧b<w.heap.size∧(∀j d,cells[j]? =some d->w.cell? ⟨b,o+j,none⟩=some (vals j))∧
  (∀j d,cells[j]? =some d->DR w ow d (vals j)):=by
 cases h with|rp vals h1 h2 h3 h4=>exact⟨_,_,vals,rfl,h1,h2,h3,h4⟩
theorem VR.osl_inv {id off len v} (h:VR w ow ρ (.osl id off len) v):∃ad c,v=.slice ad len c∧off+len<=(ρ id).n∧
  ((len=0∧c=0)∨((ρ id).ph=false∧(ρ id).n<=(ρ id).cap∧ad=some ⟨(ρ id).b,(ρ id).o+off*(ρ id).sz,none⟩∧c=(ρ id).cap-off)):=by
 cases h with
 |osl0 h1 h2=>subst h1;exact⟨_,_,rfl,by omega,.inl ⟨rfl,rfl⟩⟩
 |osl h1 h2 h3=>exact⟨_,_,rfl,h2,.inr ⟨h1,h3,rfl,rfl⟩⟩
theorem VR.sl_inv {n row v} (h:VR w ow ρ (.d (.sl n row)) v):∃ad c,v=.slice ad n c∧(n=0∨ ∃(b o sz:Nat) (vals:Nat->Nat->Value),ad=some ⟨b,o,none⟩∧¬ow b∧b<w.heap.size∧(∀i,i<n->(row i).length=sz)∧
  (∀i j d,i<n->(row i)[j]? =some d->w.cell? ⟨b,o+i*sz+j,none⟩=some (vals i j))∧(∀i j d,i<n->(row i)[j]? =some d->DR w ow d (vals i j))):=by
 cases h with|d h=>
 cases h with
 |sl0 h=>subst h;exact⟨_,_,rfl,.inl rfl⟩
 |sl vals h1 h2 h3 h4 h5 _=>exact⟨_,_,rfl,.inr ⟨_,_,_,vals,rfl,h1,h2,h3,h4,h5⟩⟩
theorem VR.sl_cap {n row v} (h:VR w ow ρ (.d (.sl n row)) v):∃ad c,v=.slice ad n c∧n<=c:=by
 cases h with|d h=>
 cases h with
 |sl0 h=>subst h;exact⟨_,_,rfl,Yt _⟩
 |sl vals h1 h2 h3 h4 h5 h6=>exact⟨_,_,rfl,h6⟩
theorem QkX {row:Nat->List D}:∀ {n:Nat} {G:List Int},QsV n row=some G->G.length=n∧∀i,i<n->row i=[.int .u8 (G.getD i 0)]
 |0,G,h=>by
  have h:some []=some G:=h;obtain rfl:=Yw h;exact⟨rfl,fun i hi=>absurd hi (Nat.not_lt_zero _)⟩
 |n+1,G,h=>by
  have h:(match QsV n row,row n with|some G,[.int .u8 k]=>some (G++[k])|_,_=>none)=some G:=h;split at h
  ·rename_i O k h1 h2;obtain rfl:=Yw h;have⟨I,J⟩:=QkX h1;refine⟨by simp[I],fun i hi=>?_⟩;rcases YV i n with c|c
   ·rw[J i c];simp[Y1,Yy (show i<O.length by omega)]
   ·have:i=n:=by omega
    subst this;rw[h2];simp[Y1,<-I]
  ·cases h
theorem QqF {o:Option V} {d n:Int} (h:bnd o d=some n):(o=none∧n=d)∨ ∃k,o=some (.d (.int k n)):=by
 unfold bnd at h;split at h
 ·exact .inl ⟨rfl,by simpa using h.symm⟩
 ·simp at h;subst h;exact .inr ⟨_,rfl⟩
 ·cases h
theorem Qmn {isSlice:Bool} {len cap:Nat} {lo hi:Option Operand} {l h:Int} {ev:List (Nat×Bool)->Operand->V} (I:EvR w ow ρ a ev) (hl:bnd (lo.map (ev [])) 0=some l) (Y:bnd (hi.map (ev [])) len=some h)
  (h0:0<=l) (h1:l<=h) (h2:h<=len) (hc:len<=cap) (w':World):
  (Instr.sliceBounds isSlice len cap (lo.map a.eval) (hi.map a.eval) none).run P w'=.ok (l.toNat,h.toNat,cap) w':=by
 have eh:(h.toNat:Int)=h:=Int.toNat_of_nonneg (by omega);rcases QqF hl with ⟨e1,rfl⟩|⟨k,e1⟩<;>rcases QqF Y with ⟨J,rfl⟩|⟨U,J⟩
 ·have:lo=none:=by simpa using e1
  have:hi=none:=by simpa using J
  subst lo hi;simp[Instr.sliceBounds]
 ·have:lo=none:=by simpa using e1
  subst lo;obtain⟨y,rfl,G⟩:=Yc.1 J;have G:=(I.eq G).int_inv;simp[Instr.sliceBounds,G,run_sliceBound w' U h cap _ (by omega) (by omega)]
 ·have:hi=none:=by simpa using J
  subst hi;obtain⟨y,rfl,G⟩:=Yc.1 e1;have G:=(I.eq G).int_inv;simp[Instr.sliceBounds,G,run_sliceBound w' k l len _ (by omega) (by omega)]
 ·obtain⟨x,rfl,O⟩:=Yc.1 e1;obtain⟨y,rfl,G⟩:=Yc.1 J;have O:=(I.eq O).int_inv;have G:=(I.eq G).int_inv;simp[Instr.sliceBounds,O,G,run_sliceBound w' U h cap _ (by omega) (by omega),run_sliceBound w' k l h.toNat _ (by omega) (by omega)]
theorem VR.tup_inv {vs v} (h:VR w ow ρ (.tup vs) v):∃cs,v=.tuple cs∧cs.size=vs.length∧∀j u,vs[j]? =some u->VR w ow ρ u (cs.getD j undef):=by
 cases h with|tup h1 h2=>exact⟨_,rfl,h1,h2⟩
theorem QqG {c x y:Operand} {p:Bool} {dst ty pos after guard} (h:a.eval c=.bool p) (w:World):
  (execOp a.eval ⟨dst,.pick c x y,ty,pos,after,guard⟩).run P w=.ok (.value (if p then a.eval x else a.eval y)) w:=by
 simp only[execOp,h,asBool];rfl
theorem QkY {s f:Nat} {fields:Array Field} {G:Field} {b o:Nat} {tf} (I:P.underlying s=some (.struct fields)) (J:fields[f]? =some G) (ht:TIok P G.type tf) (hs:tf.size≠0) (w:World):
  (Instr.fieldAt s (.pointer (some ⟨b,o,none⟩)) f).run P w=.ok (.pointer (some ⟨b,o+G.offset,none⟩)) w:=by
 simp[Instr.fieldAt,run_underlying I,J,Instr.sureAddr,fieldPlace,Jk ht,hs,Addr.add_mid]
theorem Qhw {t e:Nat} {te} (I:P.underlying t=some (.slice e)) (ht:TIok P e te) {b o len cap:Nat} {k:IntKind} {i:Int} (G:0<=i) (h1:i<len) (w:World):
  (Instr.indexAt t (.slice (some ⟨b,o,none⟩) len cap) (.int k i)).run P w=.ok (.pointer (some ⟨b,o+i.toNat*te.size,none⟩)) w:=by
 simp[Instr.indexAt,asIntOf,run_underlying I,G,h1,Jk ht,Addr.add_mid]
theorem Qy3 {vs:List Operand} (G:EvR w ow ρ a ev):∀j v,(vs.map (ev []))[j]? =some v->VR w ow ρ v ((vs.toArray.map a.eval).getD j undef):=by
 intro j v hj;rw[Yz] at hj;obtain⟨x,I,rfl⟩:=Yc.1 hj;have:(vs.toArray.map a.eval).getD j undef=a.eval x:=by simp[I]
 rw[this];exact G.at x
theorem QsY {t:Nat} {ti fds} (hT:TOk P tb) (a1:tb.find t=some ti) (hk:ti.kind=.struct fds) (J:Array (Nat×Value)) {pv:List (Nat×V)} {out:List V}
  (b3:pv.map (·.1)=J.toList.map (·.1)) (b4:∀(j:Nat) (x:Nat×V) (y:Nat×Value),pv[j]? =some x->J.toList[j]? =some y->VR w ow ρ x.2 y.2)
  (h:QrJ fds tb (ti.zero.map .d) pv=some out):∃cs,(Instr.build t J).run P w=.ok (.agg cs) w∧ListR w ow ρ out cs:=by
 have⟨i,z,hi,hs,_,hz,b9,a5,a2⟩:=(hT.ok _ _ a1).info;have⟨fields,hu,b2,_⟩:=Qfp (hT.ok _ _ a1) hk;have b7:∃G:Array (Nat×Nat),(fields.mapM (fun f=>(do pure (f.offset,<-sizeOf f.type):Sem (Nat×Nat)))).run P w=.ok G w∧G.size=fields.size∧
   ∀(i:Nat) (I:Field),fields[i]? =some I->∀tf,tb.find I.type=some tf->G[i]? =some (I.offset,tf.size):=by
  have key:∀(l:List Field),(∀f∈l,(P.info? f.type).isSome=true)->∃Y:List (Nat×Nat),(l.mapM (fun f=>(do pure (f.offset,<-sizeOf f.type):Sem (Nat×Nat)))).run P w=.ok Y w∧Y.length=l.length∧
    ∀(i:Nat) (I:Field),l[i]? =some I->∀tf,tb.find I.type=some tf->Y[i]? =some (I.offset,tf.size):=by
   intro l
   induction l with
   |nil=>intro _;exact⟨[],rfl,rfl,fun i f h=>by simp at h⟩
   |cons f r ih=>
    intro O;have⟨Y,h1,h2,h3⟩:=ih fun g hg=>O g (by simp[hg]);have⟨fi,a4⟩:=Option.isSome_iff_exists.1 (O f (by simp));refine⟨(f.offset,fi.size)::Y,?_,by simp[h2],fun i I hf a9 U=>?_⟩
    ·have c0:(sizeOf f.type).run P w=.ok fi.size w:=by simp[sizeOf,typeInfo,a4]
     simp only[List.mapM_cons,Sem.run_bind,c0,Result.andThen_ok,Sem.run_pure,h1]
    ·cases i with
     |zero=>
      simp at hf;subst hf;have⟨i',z',a3,a8,_⟩:=(hT.ok _ _ U).info;rw[a4] at a3;cases a3;simp[a8]
     |succ i=>simpa using h3 i I (by simpa using hf) a9 U
  have⟨Y,h1,h2,h3⟩:=key fields.toList ((hT.ok _ _ a1).flds fields hu);refine⟨Y.toArray,?_,by simp[h2],fun i I hf tf a7=>by simpa using h3 i I (by simpa using hf) tf a7⟩;rw[Array.mapM_eq_mapM_toList,Sem.run_map,h1]
  rfl
 have⟨G,b5,b6,a6⟩:=b7;have b8:ListR w ow ρ (ti.zero.map .d) z.cells:=by
  refine⟨by rw[b9,Ya,a5],fun j hj=>?_,fun j u hj=>?_⟩
  ·exact(a2 w ow j _ (Y7 (by omega))).oneCell
  ·rw[Yz] at hj;obtain⟨d,hd,rfl⟩:=Yc.1 hj;exact .d (a2 w ow j d hd)
 have⟨ds,h1,h2⟩:=Qmm hT b2 G ⟨b6,a6⟩ pv J.toList _ _ out b3 b4 b8 h;refine⟨ds,?_,h2⟩;simp only[Instr.build,zeroValue,typeInfo,Sem.run_bind,run_program,Result.andThen_ok,hi,hz,run_underlying hu,b5,h1,Sem.run_pure]
theorem Qha {t e:Nat} {te ti} (hT:TOk P tb) (a3:tb.find t=some ti) (hk:ti.kind=.slice e) (J:tb.find e=some te) (len:Nat) (G:Array (Nat×Value)) {pv:List (Nat×V)} {rs:List (List D)}
  (a1:pv.map (·.1)=G.toList.map (·.1)) (a2:∀(j:Nat) (x:Nat×V) (y:Nat×Value),pv[j]? =some x->G.toList[j]? =some y->VR w ow ρ x.2 y.2)
  (h:Qop te.size 0 pv=some rs) (hl:rs.length=len) (hb:len*te.size<=1000000):
  ∃C,(Instr.buildSlice t len G).run P w=.ok (.slice (some ⟨w.heap.size,0,none⟩) len len) (w.alloc (.cells C e))∧C.size=len*te.size∧
   ∀i,i<len->(rowAt rs i).length=te.size∧∀j d,(rowAt rs i)[j]? =some d->DR w ow d (C.getD (i*te.size+j) undef):=by
 have⟨i,z,hi,hs,_,hz,Y,hzl,hzr⟩:=(hT.ok _ _ J).info;have hu:=ZX (hT.ok _ _ a3) hk;have I:∀zs:Array Value,zs.size=len*te.size->∃C,Instr.fill (fun i=>some (i*te.size,te.size)) zs G.toList=some C∧C.size=len*te.size∧
   ∀i,i<len->(rowAt rs i).length=te.size∧∀j d,(rowAt rs i)[j]? =some d->DR w ow d (C.getD (i*te.size+j) undef):=by
  intro zs Y;have⟨ds,h1,h2,h3,_⟩:=QkW 0 pv G.toList rs zs len a1 a2 h Y (by omega);refine⟨ds,h1,by omega,fun i hi=>?_⟩;have O:rs[i]? =some rs[i]:=Y7 (by omega);have:=h3 i _ O;simp only[rowAt,O];simpa using this
 have U:¬(len*te.size>2^24):=by
  have:(2:Nat)^24=16777216:=by decide
  omega
 by_cases h0:len*te.size=0
 ·have⟨C,h1,h2,h3⟩:=I ((Array.range (len*te.size)).map ((#[]:Array Value)[· %(#[]:Array Value).size]!)) (by simp);refine⟨C,?_,h2,h3⟩;rw[h0] at h1;simp[Instr.buildSlice,run_underlying hu,Jk (hT.ok _ _ J),h0,newRow] at h1|-;simp[h1]
 ·have⟨C,h1,h2,h3⟩:=I ((Array.range (len*te.size)).map (z.cells[· %z.cells.size]!)) (by simp);refine⟨C,?_,h2,h3⟩;simp[Instr.buildSlice,run_underlying hu,Jk (hT.ok _ _ J),U,h0,newRow,zeroValue,typeInfo,hi,hz] at h1|-;simp[h1]
theorem ListR.agg {vs cs} (h:ListR w ow ρ vs cs):VR w ow ρ (.agg vs) (.agg cs):=.agg h.size h.one h.vals
theorem QiW (I:EvR w ow ρ a ev) (G:Array (Nat×Operand)):
  (G.toList.map fun p=>(p.1,ev [] p.2)).map (·.1)=(G.map fun(i,x)=>(i,a.eval x)).toList.map (·.1)∧
  ∀(j:Nat) (x:Nat×V) (y:Nat×Value),(G.toList.map fun p=>(p.1,ev [] p.2))[j]? =some x->(G.map fun(i,x)=>(i,a.eval x)).toList[j]? =some y->VR w ow ρ x.2 y.2:=by
 refine⟨by simp,fun j x y O J=>?_⟩;rw[Yz] at O;rw[Array.toList_map,Yz] at J;obtain⟨p,hp,rfl⟩:=Yc.1 O;obtain⟨q,U,rfl⟩:=Yc.1 J;rw[hp] at U;cases U;exact I.at _
theorem Qgo (hT:TOk P tb) (hev:EvR w ow ρ a ev) (hb:∀id b,blk id=some b->BR w ow ρ id b) (how:∀b,ow b->b<w.heap.size) (hsc:∀p,sc p->p) (o:Oper)
  (h:evP tb ev blk sc o.op K):∃v w' x,(execOp a.eval o).run P w=.ok (.value v) w'∧Pure w w'∧VR w' ow ρ x v∧K x:=by
 obtain⟨dst,op,ty,pos,after,guard⟩:=o;have fin:∀ {r:Sem Value},RunsTo P w ow ρ r K->(∀w',(execOp a.eval ⟨dst,op,ty,pos,after,guard⟩).run P w'=((r>>=fun v=>(pure (.value v):Sem Next)).run P w'))->
   ∃v w' x,(execOp a.eval ⟨dst,op,ty,pos,after,guard⟩).run P w=.ok (.value v) w'∧Pure w w'∧VR w' ow ρ x v∧K x:=by
  intro r ⟨v,w',x,h1,h2,h3,h4⟩ he;exact⟨v,w',x,by rw[he,Sem.run_bind,h1];rfl,h2,h3,h4⟩
 cases op<;>simp only[evP] at h<;>first|exact h.no.elim|skip
 case move x=>
  rw[QC] at h;exact⟨a.eval x,w,_,rfl,.refl w,hev.at x,h⟩
 case assign x=>
  rw[QC] at h;exact⟨a.eval x,w,_,rfl,.refl w,hev.at x,h⟩
 case pick c x y=>
  split at h
  ·rename_i p hp;have hc:=(hev.eq hp).bool_inv;split at h
   ·rename_i tc;split at h
    ·rename_i q hq;have hkey:a.tmps.getD tc undef=.bool p:=hc;refine⟨_,w,_,QqG hc w,.refl w,?_,h⟩
     cases p with
     |false=>exact .d .bool
     |true=>
      have hx:=hev.h [(tc,true)] x (fun k g hm=>by simp at hm;obtain⟨rfl,rfl⟩:=hm;exact hkey);rw[hq] at hx;exact hx
    ·exact h.no.elim
   ·rename_i tc _;split at h
    ·rename_i q hq;have hkey:a.tmps.getD tc undef=.bool p:=hc;refine⟨_,w,_,QqG hc w,.refl w,?_,h⟩
     cases p with
     |true=>exact .d .bool
     |false=>
      have hx:=hev.h [(tc,false)] y (fun k g hm=>by simp at hm;obtain⟨rfl,rfl⟩:=hm;exact hkey);rw[hq] at hx;exact hx
    ·exact h.no.elim
   ·exact h.no.elim
  ·exact h.no.elim
 case build t parts=>
  split at h
  ·rename_i fds s by' z q hti
   split at h
   ·rename_i cs hcs;rw[Za] at h;obtain⟨hk,hr⟩:=QiW hev parts;obtain⟨ds,h1,h2⟩:=QsY (P:=P) (w:=w) (ow:=ow) (ρ:=ρ) hT hti rfl (parts.map fun(i,x)=>(i,a.eval x)) hk hr hcs;exact fin (.same h1 h2.agg h) fun w'=>rfl
   ·exact h.no.elim
  ·exact h.no.elim
 case buildSlice t len parts=>
  split at h
  ·rename_i e s by' z q hti
   split at h
   ·rename_i te hte;split at h
    ·rename_i rs hrs hle;split at h
     ·rename_i hlen;have hlen:=Y5 hlen;obtain⟨hk,hr⟩:=QiW hev parts;obtain⟨C,h1,h2,h3⟩:=Qha (P:=P) (w:=w) (ow:=ow) (ρ:=ρ) hT hti rfl hte len (parts.map fun(i,x)=>(i,a.eval x)) hk hr hrs hlen (Ys hle);have hpure:=Pure.alloc w (.cells C e);have key:(len=0∧K (.d .nil))∨K (.d (.sl len (rowAt rs))):=by
       split at h
       ·exact .inl ⟨rfl,h⟩
       ·exact .inr h
      clear h;rcases key with ⟨hz,h⟩|h
      ·subst hz;exact fin ⟨_,_,_,h1,hpure,.d .nil,h⟩ fun w'=>rfl
      refine fin ⟨_,_,_,h1,hpure,?_,h⟩ fun w'=>rfl;refine .d (.sl (sz:=te.size) (fun i j=>C.getD (i*te.size+j) undef) (fun ho=>by have:=how _ ho;omega) (by simp) (fun i hi=>(h3 i hi).1) (fun i j d hi hd=>?_) (fun i j d hi hd=>((h3 i hi).2 j d hd).keep (hpure.keep _)) (Yi _));have hj:j<te.size:=by have:=(Y8.1 hd).1;have:=(h3 i hi).1;omega
      have hsz:0+i*te.size+j<C.size:=by
       rw[h2];have:(i+1)*te.size<=len*te.size:=Yf _ (by omega);rw[Yj] at this;omega
      have:=Qcc (w:=w.alloc (.cells C e)) (b:=w.heap.size) (o:=0+i*te.size+j) (heap_alloc_new w _) hsz;rw[this];simp
     ·exact h.no.elim
    ·exact h.no.elim
   ·exact h.no.elim
  ·exact h.no.elim
 case load t x=>
  split at h
  ·rename_i ti hti;obtain⟨v,y,h1,h2,h3⟩:=QjA (hT.ok _ _ hti) hb (hev.at x) h;exact fin (.same h1 h2 h3) fun w'=>rfl
  ·exact h.no.elim
 case nilCheck x=>
  split at h
  ·rename_i i r o hx;obtain⟨h1,h2,h3⟩:=(hev.eq hx).ref_inv;exact⟨_,w,_,by simp only[execOp,h1];rfl,.refl w,.ref h2 h3,h⟩
  ·rename_i cs hx;obtain⟨b,o,vals,h1,h2,h3,h4,h5⟩:=(hev.eq hx).rp_inv;exact⟨_,w,_,by simp only[execOp,h1];rfl,.refl w,.rp vals h2 h3 h4 h5,h⟩
  ·exact h.no.elim
 case binOp op t x y ty=>
  split at h
  ·rename_i k m k' n hx hy;have hx:=(hev.eq hx).int_inv;have hy:=(hev.eq hy).int_inv;split at h
   ·rename_i hk;have hk:k=k':=by simpa using hk
    subst hk;refine fin (QpN (t:=t) hsc h) fun w'=>?_;simp only[execOp,hx,hy,eqGuard_at_int,pure_bind]
   ·exact h.no.elim
  ·rename_i b c hx hy;have hx:=(hev.eq hx).bool_inv;have hy:=(hev.eq hy).bool_inv;split at h
   ·rename_i s by' z q hti
    refine fin (.same (v:=.bool (b==c)) (run_eql_bool w t b c (QkV (hT.ok _ _ hti) rfl)) (.d .bool) h) fun w'=>?_;simp only[execOp,hx,hy,eqGuard_at_bool,pure_bind]
   ·rename_i s by' z q hti
    refine fin (.same (v:=.bool (!(b==c))) ?_ (.d .bool) h) (r:=binOp .neq t (.bool b) (.bool c)) fun w'=>?_
    ·simp only[binOp];simp[run_equal_bool w t b c (QkV (hT.ok _ _ hti) rfl)]
    ·simp only[execOp,hx,hy,eqGuard_at_bool,pure_bind]
   ·exact h.no.elim
  ·rename_i vs us hx hy;obtain⟨cs,h1,h2,h3,h4⟩:=(hev.eq hx).agg_inv;obtain⟨ds,h5,h6,h7,h8⟩:=(hev.eq hy).agg_inv;split at h
   ·rename_i fs s by' z hti
    have he:∀e,eqT tb 9 t vs us=some e->(Op.equalIn 10000 t (.agg cs) (.agg ds)).run P w=.ok e w:=fun e he=>
     Qot (w:=w) (ow:=ow) (ρ:=ρ) hT 9 10000 (by omega) t _ vs us e _ _ w hti he ⟨cs,rfl,h2,h4⟩ ⟨ds,rfl,h6,h8⟩
    have hg:=run_eqGuard_agg (P:=P) w op t x y cs ds ((hT.ok _ _ hti).eq rfl).2;split at h
    ·rename_i e hq;refine fin (.same (v:=.bool e) ?_ (.d .bool) h) (r:=do eqGuard .eql t x y (a.eval x) (a.eval y);binOp .eql t (a.eval x) (a.eval y)) fun w'=>rfl;rw[h1,h5,Sem.run_bind,hg,Result.andThen_ok,run_eql_struct,he _ hq];rfl
    ·rename_i e hq;refine fin (.same (v:=.bool !e) ?_ (.d .bool) h) (r:=do eqGuard .neq t x y (a.eval x) (a.eval y);binOp .neq t (a.eval x) (a.eval y)) fun w'=>rfl;rw[h1,h5,Sem.run_bind,hg,Result.andThen_ok,run_neq_struct,he _ hq];rfl
    ·exact h.no.elim
   ·exact h.no.elim
  ·rename_i s t' hx hy;have hx:=(hev.eq hx).str_inv;have hy:=(hev.eq hy).str_inv;split at h
   ·refine fin (.same (v:=.bool (s==t')) ?_ (.d .bool) h) (r:=binOp .eql t (.string s) (.string t')) fun w'=>?_
    ·simp[binOp,Op.stringOp,beq_toListBytes]
    ·simp only[execOp,hx,hy,eqGuard_at_string,pure_bind]
   ·refine fin (.same (v:=.bool !(s==t')) ?_ (.d .bool) h) (r:=binOp .neq t (.string s) (.string t')) fun w'=>?_
    ·simp[binOp,Op.stringOp,beq_toListBytes]
    ·simp only[execOp,hx,hy,eqGuard_at_string,pure_bind]
   ·obtain⟨hsc1,h⟩:=h;have hl:=hsc _ hsc1;refine fin (.same (v:=.string (s++t')) ?_ (.d .str) h) (r:=binOp .add t (.string s) (.string t')) fun w'=>?_
    ·have:¬((s.size+t'.size:Nat):Int)>IntKind.i64.max:=by
      show ¬((s.size+t'.size:Nat):Int)>9223372036854775807;omega
     simp only[binOp,Op.stringOp,Y0 this]
     rfl
    ·simp only[execOp,hx,hy,eqGuard_at_string,pure_bind]
   ·refine fin (.same (v:=.bool (bsl s t')) ?_ (.d .bool) h) (r:=binOp .lss t (.string s) (.string t')) fun w'=>?_
    ·simp[binOp,Op.stringOp,bsl,beq_toListBytes]
    ·simp only[execOp,hx,hy,eqGuard_at_string,pure_bind]
   ·refine fin (.same (v:=.bool (bsl s t'||s==t')) ?_ (.d .bool) h) (r:=binOp .leq t (.string s) (.string t')) fun w'=>?_
    ·simp[binOp,Op.stringOp,bsl,beq_toListBytes]
    ·simp only[execOp,hx,hy,eqGuard_at_string,pure_bind]
   ·refine fin (.same (v:=.bool (!(bsl s t'||s==t'))) ?_ (.d .bool) h) (r:=binOp .gtr t (.string s) (.string t')) fun w'=>?_
    ·simp[binOp,Op.stringOp,bsl,beq_toListBytes]
    ·simp only[execOp,hx,hy,eqGuard_at_string,pure_bind]
   ·refine fin (.same (v:=.bool (!(bsl s t'))) ?_ (.d .bool) h) (r:=binOp .geq t (.string s) (.string t')) fun w'=>?_
    ·simp[binOp,Op.stringOp,bsl,beq_toListBytes]
    ·simp only[execOp,hx,hy,eqGuard_at_string,pure_bind]
   ·exact h.no.elim
  ·rename_i id r off hx hy;obtain⟨ad,h1⟩:∃ad,a.eval x=.pointer (some ad):=⟨_,(hev.eq hx).ref_inv.1⟩;have hy:=(hev.eq hy).zn_inv;split at h
   ·rename_i e' s by' z q hti
    refine fin (.same (v:=.bool false) (run_eql_pointer_nil w t (some ad) (QgN (hT.ok _ _ hti) rfl)) (.d .bool) h) fun w'=>?_;simp only[execOp,h1,hy,eqGuard_at_pointer,pure_bind]
   ·rename_i e' s by' z q hti
    refine fin (.same (v:=.bool true) (run_neq_pointer_nil w t (some ad) (QgN (hT.ok _ _ hti) rfl)) (.d .bool) h) fun w'=>?_;simp only[execOp,h1,hy,eqGuard_at_pointer,pure_bind]
   ·exact h.no.elim
  ·rename_i cs hx hy;obtain⟨ad,h1⟩:∃ad,a.eval x=.pointer (some ad):=by obtain⟨_,_,_,h1,_⟩:=(hev.eq hx).rp_inv;exact⟨_,h1⟩
   have hy:=(hev.eq hy).zn_inv;split at h
   ·rename_i e' s by' z q hti
    refine fin (.same (v:=.bool false) (run_eql_pointer_nil w t (some ad) (QgN (hT.ok _ _ hti) rfl)) (.d .bool) h) fun w'=>?_;simp only[execOp,h1,hy,eqGuard_at_pointer,pure_bind]
   ·rename_i e' s by' z q hti
    refine fin (.same (v:=.bool true) (run_neq_pointer_nil w t (some ad) (QgN (hT.ok _ _ hti) rfl)) (.d .bool) h) fun w'=>?_;simp only[execOp,h1,hy,eqGuard_at_pointer,pure_bind]
   ·exact h.no.elim
  ·rename_i hx hy;have h1:=(hev.eq hx).zn_inv;have hy:=(hev.eq hy).zn_inv;split at h
   ·rename_i e' s by' z q hti
    refine fin (.same (v:=.bool true) (run_eql_pointer_nil w t none (QgN (hT.ok _ _ hti) rfl)) (.d .bool) h) fun w'=>?_;simp only[execOp,h1,hy,eqGuard_at_pointer,pure_bind]
   ·rename_i e' s by' z q hti
    refine fin (.same (v:=.bool false) (run_neq_pointer_nil w t none (QgN (hT.ok _ _ hti) rfl)) (.d .bool) h) fun w'=>?_;simp only[execOp,h1,hy,eqGuard_at_pointer,pure_bind]
   ·exact h.no.elim
  ·exact h.no.elim
 case unOp op ty x=>
  split at h
  ·rename_i b hx;have hx:=(hev.eq hx).bool_inv;exact fin (.same (v:=.bool !b) (by simp[Op.unary]) (.d .bool) h) (r:=Op.unary .not (.bool b)) fun w'=>by simp only[execOp,hx]
  ·rename_i k n hx;have hx:=(hev.eq hx).int_inv;exact fin (.same (v:=.int k (k.wrap (0-n))) (by simp[Op.unary,Op.intArith]) (.d .int) h) (r:=Op.unary .neg (.int k n)) fun w'=>by simp only[execOp,hx]
  ·exact h.no.elim
 case convert s t x=>
  split at h
  ·rename_i ti k s' by' z q k' n hs ht hx
   have hx:=(hev.eq hx).int_inv;obtain⟨d,hd,_⟩:=(hT.ok _ _ hs).kind;have hu:=Qkc (hT.ok _ _ ht) rfl;refine fin (.same (v:=.int k (k.wrap n)) ?_ (.d .int) h) (r:=convert s t (.int k' n)) fun w'=>by simp only[execOp,hx]
   simp[convert,run_underlying hd,run_underlying hu,Conv.intToInt]
  ·rename_i e s1 by1 z1 q1 s2 by2 z2 q2 n row hs ht hx;split at h
   ·rename_i s3 by3 z3 q3 ns hte hb;obtain⟨ad,c,h1,h2⟩:=(hev.eq hx).sl_inv;obtain⟨hn,hns⟩:=QkX hb;have hu1:=ZX (hT.ok _ _ hs) rfl;have hu2:=QgM (hT.ok _ _ ht) rfl;have hu3:=Qkc (hT.ok _ _ hte) rfl;refine fin (.same (v:=.string (Qf8 ns)) ?_ (.d .str) h) (r:=convert s t (.slice ad n c)) fun w'=>by simp only[execOp,h1]
    have key:(Conv.bytesToString (.slice ad n c)).run P w=.ok (.string (Qf8 ns)) w:=by
     rcases h2 with h2|⟨b,o,sz,vals,rfl,h3,h4,h5,h6,h7⟩
     ·subst h2;have:ns=[]:=Yv hn;subst this
      cases ad with
      |none=>rfl
      |some a=>exact run_bytesToString w a 0 c [] (by have:=run_loadCells (P:=P) w a 0 (fun _=>undef) (fun j hj=>absurd hj (Nat.not_lt_zero _));simpa using this)
     ·refine run_bytesToString w _ n c ns ?_;have hl:=run_loadCells (P:=P) w ⟨b,o,none⟩ n (fun j=>.int .u8 (ns.getD j 0)) (fun j hj=>by
       have h8:=hns j hj;have h9:=h5 j hj;rw[h8] at h9;have h9:1=sz:=h9;have h10:=h6 j 0 (.int .u8 (ns.getD j 0)) hj (by rw[h8];rfl);have h11:=h7 j 0 (.int .u8 (ns.getD j 0)) hj (by rw[h8];rfl);rw[Addr.add_mid,show o+j=o+j*sz+0 by rw[<-h9];omega,h10,(VR.d (ρ:=ρ) h11).int_inv])
      rw[hl]
      congr 1
      apply Xc
      apply List.ext_getElem
      ·simp[hn]
      ·intro i h12 h13;simp at h12 h13|-;rw[Y7 (by omega)];rfl
    simp only[convert];simp[run_underlying hu1,run_underlying hu2,run_underlying hu3,key]
   ·exact h.no.elim
  ·rename_i e s1 by1 z1 q1 s2 by2 z2 q2 id off n hs ht hx;split at h
   ·rename_i t0 sz n0 row hblk;split at h
    ·rename_i s3 by3 z3 q3 hsz hte;have hsz:=Y5 hsz;subst hsz;obtain⟨ad,c,h1,h0,h2⟩:=(hev.eq hx).osl_inv;obtain⟨hrows,h⟩:=h;generalize hne:QpE n row=ns at h;have hn:ns.length=n:=by rw[<-hne];simp[QpE]
     have hns:∀i,i<n->row (0+i)=[.int .u8 (ns.getD i 0)]:=fun i hi=>by
      rw[Yg,hrows i hi,<-hne];simp[QpE,Y1,hi]
     have hu1:=ZX (hT.ok _ _ hs) rfl;have hu2:=QgM (hT.ok _ _ ht) rfl;have hu3:=Qkc (hT.ok _ _ hte) rfl;refine fin (.same (v:=.string (Qf8 ns)) ?_ (.d .str) h) (r:=convert s t (.slice ad n c)) fun w'=>by simp only[execOp,h1]
     have key:(Conv.bytesToString (.slice ad n c)).run P w=.ok (.string (Qf8 ns)) w:=by
      rcases h2 with ⟨h2,_⟩|⟨hph,_,h2,_⟩
      ·subst h2;have:ns=[]:=Yv hn;subst this
       cases ad with
       |none=>rfl
       |some a=>exact run_bytesToString w a 0 c [] (by have:=run_loadCells (P:=P) w a 0 (fun _=>undef) (fun j hj=>absurd hj (Nat.not_lt_zero _));simpa using this)
      ·subst h2;have hB:=hb id _ hblk
       cases hB with
       |arr0 k1=>rw[k1] at hph;cases hph
       |arr C et k1 k2 k3 k4 k5 k6 k7 k8=>
       refine run_bytesToString w _ n c ns ?_;have hl:=run_loadCells (P:=P) w ⟨(ρ id).b,(ρ id).o+0*(ρ id).sz,none⟩ n (fun j=>.int .u8 (ns.getD j 0)) (fun j hj=>by
        have h8:=hns j hj;have h11:=k8 (0+j) 0 (.int .u8 (ns.getD j 0)) (by omega) (by rw[h8];rfl);rw[Addr.add_mid,k2,Qcc k6 (by omega),show(ρ id).o+0*1+j=(ρ id).o+(0+j)*1+0 by omega,(VR.d (ρ:=ρ) h11).int_inv])
       rw[hl]
       congr 1
       apply Xc
       apply List.ext_getElem
       ·simp[hn]
       ·intro i h12 h13;simp at h12 h13|-;rw[Y7 (by omega)];rfl
     simp only[convert];simp[run_underlying hu1,run_underlying hu2,run_underlying hu3,key]
    ·exact h.no.elim
   ·exact h.no.elim
  ·exact h.no.elim
 case index t x i=>
  split at h
  ·rename_i s1 by1 z1 q1 s k n ht hx hi;have hx:=(hev.eq hx).str_inv;have hi:=(hev.eq hi).int_inv;obtain⟨hsc1,h⟩:=h;have hr:=hsc _ hsc1;have hu:=QgM (hT.ok _ _ ht) rfl;refine fin (.same (v:=.int .u8 (Qaa s n.toNat)) ?_ (.d .int) h) (r:=Instr.index t (.string s) (.int k n)) fun w'=>by simp only[execOp,hx,hi]
   have h2:n.toNat<s.size:=by omega
   rw[run_index_string w t s k n hu,dif_pos hr];simp[Qaa,h2]
  ·exact h.no.elim
 case makeFunc f first captured=>
  split at h
  ·rename_i f hf;rw[Za] at h;have hf0:first=#[]:=by simpa using hf
   subst hf0;refine fin (.same (v:=.func (.func f) #[] (captured.map a.eval)) rfl ?_ h) (r:=Instr.makeFunc (.func f) #[] (captured.map a.eval)) fun w'=>by simp[execOp]
   refine .fn (by simp) fun j v hj=>?_;have:=Qy3 hev j v hj;simpa using this
  ·exact h.no.elim
 case fieldAddr s x f=>
  split at h
  ·rename_i fs s' by' z q hti
   obtain⟨fields,hu,hfs,_⟩:=Qfp (hT.ok _ _ hti) rfl;split at h
   ·rename_i t o i r off hf hx;rw[hfs] at hf;obtain⟨fld,hfld,rfl,rfl⟩:=Qkd hf;obtain⟨h1,h2,h3⟩:=(hev.eq hx).ref_inv;split at h
    ·rename_i kd m by2 z2 q2 htf;refine fin (.same (QkY hu hfld (hT.ok _ _ htf) (by simp) w) ?_ h) (r:=Instr.fieldAt s (.pointer (some ⟨(ρ i).b,(ρ i).o+r*(ρ i).sz+off,none⟩)) f) fun w'=>by simp only[execOp,h1]
     rw[show(ρ i).o+r*(ρ i).sz+off+fld.offset=(ρ i).o+r*(ρ i).sz+(off+fld.offset) by omega];exact .ref h2 h3
    ·exact h.no.elim
   ·rename_i t o cs hf hx;rw[hfs] at hf;obtain⟨fld,hfld,rfl,rfl⟩:=Qkd hf;obtain⟨b,o,vals,h1,h2,h3,h4,h5⟩:=(hev.eq hx).rp_inv;split at h
    ·rename_i kd m by2 z2 q2 htf;rw[Qd9] at h;refine fin (.same (QkY hu hfld (hT.ok _ _ htf) (by simp) w) ?_ h) (r:=Instr.fieldAt s (.pointer (some ⟨b,o,none⟩)) f) fun w'=>by simp only[execOp,h1]
     refine .rp (fun j=>vals (fld.offset+j)) h2 h3 (fun j d hj=>?_) fun j d hj=>?_
     ·rw[YR] at hj;rw[Xi];exact h4 _ _ hj
     ·rw[YR] at hj;exact h5 _ _ hj
    ·exact h.no.elim
   ·exact h.no.elim
  ·exact h.no.elim
 case field s x f=>
  split at h
  ·rename_i fs s' by' z q hti
   obtain⟨fields,hu,hfs,_⟩:=Qfp (hT.ok _ _ hti) rfl;split at h
   ·rename_i t o vs hf hx;rw[hfs] at hf;obtain⟨fld,hfld,rfl,rfl⟩:=Qkd hf;obtain⟨cs,h1,h2,h3,h4⟩:=(hev.eq hx).agg_inv;split at h
    ·rename_i tf htf;split at h
     ·rename_i hle;have hle:=Ys hle;rw[QC] at h;obtain⟨v,h5,h6⟩:=QiV (P:=P) (w:=w) (ow:=ow) (ρ:=ρ) (hT.ok _ _ htf) h2 h4 fld.offset hle;refine fin (.same (v:=v) ?_ (QpO (hT.ok _ _ htf) fld.offset h6 fun hk ds hds j hj=>?_) h) (r:=Instr.field s (.agg cs) f) fun w'=>by simp only[execOp,h1]
      ·simp[Instr.field,run_underlying hu,hfld,asAgg,h5]
      ·have h5':=h5 w;unfold part at h5';rw[Sem.run_bind,Qie (hT.ok _ _ htf)] at h5';rw[hk] at h5';simp[Jk (hT.ok _ _ htf),hds] at h5';subst h5';simp at hj;have:=h3 (fld.offset+j) (by omega);rw[Y6,Array.getElem?_extract,Y2 (by omega),<-Y6];exact this
     ·exact h.no.elim
    ·exact h.no.elim
   ·exact h.no.elim
  ·exact h.no.elim
 case indexAddr t x i=>
  split at h
  ·rename_i e s' by' z q hti
   have hu:=ZX (hT.ok _ _ hti) rfl;split at h
   ·rename_i te id off len k n hte hx hi;have hi:=(hev.eq hi).int_inv;obtain⟨ad,c,h1,h2,h3⟩:=(hev.eq hx).osl_inv;split at h
    ·rename_i t' sz n' row hblk;split at h
     ·rename_i hsz;have hsz:=Y5 hsz;obtain⟨hsc1,h⟩:=h;rw[QdB] at h;have hr:=hsc _ hsc1;rcases h3 with ⟨h3,_⟩|⟨h3,h4,h5,h6⟩
      ·omega
      ·have hszr:(ρ id).sz=sz:=by
        cases hb _ _ hblk with
        |arr0 _ h _ _=>exact h
        |arr _ _ _ h=>exact h
       subst h5;refine fin (.same (Qhw hu (hT.ok _ _ hte) hr.1 hr.2 w) ?_ h) (r:=Instr.indexAt t (.slice (some ⟨(ρ id).b,(ρ id).o+off*(ρ id).sz,none⟩) len c) (.int k n)) fun w'=>by simp only[execOp,h1,hi]
       rw[show(ρ id).o+off*(ρ id).sz+n.toNat*te.size=(ρ id).o+(off+n.toNat)*(ρ id).sz+0 by rw[hszr,hsz,Yj];omega];exact .ref h3 (by omega)
     ·exact h.no.elim
    ·rename_i t' cs' hblk;split at h
     ·obtain⟨hsc1,h⟩:=h;have hr:=hsc _ hsc1;rcases h3 with ⟨h3,_⟩|⟨h3,h4,h5,h6⟩
      ·omega
      ·subst h5;refine fin (.same (Qhw hu (hT.ok _ _ hte) hr.1 hr.2 w) ?_ h) (r:=Instr.indexAt t (.slice (some ⟨(ρ id).b,(ρ id).o+0*(ρ id).sz,none⟩) len c) (.int k n)) fun w'=>by simp only[execOp,h1,hi]
       rw[show(ρ id).o+0*(ρ id).sz+n.toNat*te.size=(ρ id).o+0*(ρ id).sz+(n.toNat*te.size) by omega];exact .ref h3 (by omega)
     ·exact h.no.elim
    ·exact h.no.elim
   ·rename_i te len row k n hte hx hi;have hi:=(hev.eq hi).int_inv;obtain⟨ad,c,h1,h2⟩:=(hev.eq hx).sl_inv;obtain⟨hsc1,h⟩:=h;have hr:=hsc _ hsc1;rw[Qd9] at h;split at h
    ·rename_i hsz;have hsz:=Y5 hsz;rcases h2 with h2|⟨b,o,sz,vals,rfl,h3,h4,h5,h6,h7⟩
     ·omega
     ·have hlen:=h5 n.toNat (by omega);refine fin (.same (Qhw hu (hT.ok _ _ hte) hr.1 hr.2 w) ?_ h) (r:=Instr.indexAt t (.slice (some ⟨b,o,none⟩) len c) (.int k n)) fun w'=>by simp only[execOp,h1,hi]
      refine .rp (fun j=>vals n.toNat j) h3 h4 (fun j d hj=>?_) fun j d hj=>h7 n.toNat j d (by omega) hj;rw[hsz,hlen];exact h6 n.toNat j d (by omega) hj
    ·exact h.no.elim
   ·exact h.no.elim
  ·exact h.no.elim
 case slice t x lo hi mx=>
  cases mx with
  |some m=>exact h.no.elim
  |none=>
  dsimp only at h;split at h
  ·rename_i e s' by' z q hti
   have hu:=ZX (hT.ok _ _ hti) rfl;have main:∀ {te:TI} {ad:Option Addr} {len c:Nat} {l hh:Int},tb.find e=some te->a.eval x=.slice ad len c->len<=c->bnd (lo.map (ev [])) 0=some l->bnd (hi.map (ev [])) len=some hh->0<=l->l<=hh->hh<=len->
     ∀w',(Instr.sliceAt t (a.eval x) (lo.map a.eval) (hi.map a.eval) none).run P w'=.ok (.slice (if c=l.toNat then ad else ad.map (·.add (l.toNat*te.size))) (hh.toNat-l.toNat) (c-l.toNat)) w':=by
    intro te ad len c l hh hte hx hlc hl hhi h0 h1 h2 w';have hb:=Qmn (P:=P) (isSlice:=true) hev hl hhi h0 h1 h2 hlc;simp[Instr.sliceAt,Instr.slice,run_underlying hu,hx,hb,Jk (hT.ok _ _ hte)]
   split at h
   ·rename_i te id off len hte hx;obtain⟨ad,c,h1,h2,h3⟩:=(hev.eq hx).osl_inv;split at h
    ·rename_i t' sz n' row l hh hblk hl hhi;split at h
     ·rename_i hsz;have hsz:=Y5 hsz;obtain⟨hsc1,h⟩:=h;rw[QdB,Q5] at h;obtain⟨g0,g1,g2⟩:=hsc _ hsc1;have hszr:(ρ id).sz=sz:=by
       cases hb _ _ hblk with
       |arr0 _ h _ _=>exact h
       |arr _ _ _ h=>exact h
      have hlc:len<=c:=by
       rcases h3 with ⟨h3,h4⟩|⟨h3,h4,h5,h6⟩<;>omega
      refine fin (.same (main hte h1 hlc hl hhi g0 g1 g2 w) ?_ h) fun w'=>rfl;have eq1:hh.toNat-l.toNat=(hh-l).toNat:=by omega
      rw[eq1];rcases h3 with ⟨h3,h4⟩|⟨h3,h4,h5,h6⟩
      ·have e1:(hh-l).toNat=0:=by omega
       have e2:c-l.toNat=0:=by omega
       rw[e1,e2];exact .osl0 rfl (by omega)
      ·by_cases hcl:c=l.toNat
       ·have e1:(hh-l).toNat=0:=by omega
        have e2:c-l.toNat=0:=by omega
        rw[e1,e2];exact .osl0 rfl (by omega)
       ·rw[Y0 hcl,h5];have ea:(some (⟨(ρ id).b,(ρ id).o+off*(ρ id).sz,none⟩:Addr)).map (·.add (l.toNat*te.size))=some ⟨(ρ id).b,(ρ id).o+(off+l.toNat)*(ρ id).sz,none⟩:=by
         have e3:(⟨(ρ id).b,(ρ id).o+off*(ρ id).sz,none⟩:Addr).add (l.toNat*te.size)=⟨(ρ id).b,(ρ id).o+off*(ρ id).sz+l.toNat*te.size,none⟩:=by
          unfold Addr.add;split
          ·rename_i hz;rw[hz];rfl
          ·rfl
         simp only[Xq,e3];rw[hszr,hsz,Yj off]
         congr 2;omega
        rw[ea,h6,show(ρ id).cap-off-l.toNat=(ρ id).cap-(off+l.toNat) by omega];exact .osl h3 (by omega) h4
     ·exact h.no.elim
    ·exact h.no.elim
   ·rename_i te len row hte hx;split at h
    ·rename_i l hh hl hhi;obtain⟨hsc1,h⟩:=h;rw[Q5] at h;obtain⟨⟨g0,g1,g2⟩,g3⟩:=hsc _ hsc1;obtain⟨ad,c,h1,hlc⟩:=(hev.eq hx).sl_cap;refine fin (.same (main hte h1 hlc hl hhi g0 g1 g2 w) ?_ h) fun w'=>rfl;have eq1:hh.toNat-l.toNat=(hh-l).toNat:=by omega
     rw[eq1]
     by_cases hz:(hh-l).toNat=0
     ·rw[hz];exact .d (.sl0 rfl)
     ·obtain⟨ad',c',h1',h2⟩:=(hev.eq hx).sl_inv;rw[h1] at h1'
      cases h1'
      rcases h2 with h2|⟨b,o,sz,vals,rfl,h3,h4,h5,h6,h7⟩
      ·omega
      ·have hsz:l.toNat*te.size=l.toNat*sz:=by
        rcases g3 with g3|g3
        ·subst g3;simp
        ·rw[<-g3,h5 0 (by omega)]
       have hcl:¬c=l.toNat:=by omega
       have e3:(⟨b,o,none⟩:Addr).add (l.toNat*te.size)=⟨b,o+l.toNat*sz,none⟩:=by
        rw[hsz];unfold Addr.add;split
        ·rename_i hz;rw[hz];rfl
        ·rfl
       rw[Y0 hcl,Xq,e3];refine .d (.sl (sz:=sz) (fun i j=>vals (i+l.toNat) j) h3 h4 (fun i hi=>h5 _ (by omega)) (fun i j d hi hd=>?_) (fun i j d hi hd=>h7 _ j d (by omega) hd) (by omega));have:=h6 (i+l.toNat) j d (by omega) hd;rw[show o+l.toNat*sz+i*sz+j=o+(i+l.toNat)*sz+j by rw[Yj];omega];exact this
    ·exact h.no.elim
   ·rename_i te hte hx;split at h
    ·rename_i l hh hl hhi;obtain⟨hsc1,h⟩:=h;obtain⟨g0,g1⟩:=hsc _ hsc1;subst g0 g1;obtain⟨ad,h1⟩:∃ad,a.eval x=.slice ad 0 0:=by
      have h2:=hev.eq hx;generalize a.eval x=y at h2|-
      cases h2 with|d hd=>cases hd;exact⟨_,rfl⟩
     refine fin (.same (main hte h1 (Yi _) hl hhi (X7 _) (X7 _) (X7 _) w) ?_ h) fun w'=>rfl;simp only[Y0c,YG];exact .d .nil
    ·exact h.no.elim
   ·exact h.no.elim
  ·rename_i s' by' z q hti
   have hu:=QgM (hT.ok _ _ hti) rfl;split at h
   ·rename_i s hx;have hx:=(hev.eq hx).str_inv;split at h
    ·rename_i l hh hl hhi;obtain⟨hsc1,h⟩:=h;obtain⟨g0,g1,g2⟩:=hsc _ hsc1;have hb:=Qmn (P:=P) (isSlice:=false) hev hl hhi g0 g1 g2 (Yi _);refine fin (r:=Instr.sliceAt t (a.eval x) (lo.map a.eval) (hi.map a.eval) none) (.same (v:=.string (s.extract l.toNat hh.toNat)) ?_ (.d .str) h) fun w'=>rfl;simp[Instr.sliceAt,Instr.slice,run_underlying hu,hx,hb]
    ·exact h.no.elim
   ·exact h.no.elim
  ·exact h.no.elim
 case extract x i=>
  split at h
  ·rename_i vs hx;obtain⟨cs,h1,h2,h3⟩:=(hev.eq hx).tup_inv;split at h
   ·rename_i v hv;rw[QC] at h;have hlt:i<cs.size:=by have:=(Y8.1 hv).1;omega
    refine fin (.same (v:=cs.getD i undef) ?_ (h3 i v hv) h) (r:=Instr.extract (.tuple cs) i) fun w'=>by simp only[execOp,h1]
    simp[Instr.extract,hlt]
   ·exact h.no.elim
  ·exact h.no.elim
 case call c=>
  split at h
  ·rename_i hcal;split at h
   ·rename_i x t hargs htys;have hargs:c.args=#[x]:=by apply Xc;simpa using hargs
    have htys:c.argTypes=#[t]:=by apply Xc;simpa using htys
    have hrun:∀w',(execOp a.eval ⟨dst,.call c,ty,pos,after,guard⟩).run P w'=((Builtin.len_ #[t] ty #[a.eval x]>>=fun v=>(pure (.value v):Sem Next)).run P w'):=fun w'=>by
     simp only[execOp,resolve,hcal,hargs,htys,pure_bind,invoke,builtin,XL,YC,Y06]
    split at h
    ·rename_i e s' by' z q id off l hti hx
     obtain⟨ad,c',h1,h2,h3⟩:=(hev.eq hx).osl_inv;exact fin (.same (v:=.int .i64 l) (by simp[Builtin.len_,run_underlying (ZX (hT.ok _ _ hti) rfl),h1,goInt]) (.d .int) h) hrun
    ·rename_i e s' by' z q n row hti hx
     obtain⟨ad,c',h1,h2⟩:=(hev.eq hx).sl_inv;exact fin (.same (v:=.int .i64 n) (by simp[Builtin.len_,run_underlying (ZX (hT.ok _ _ hti) rfl),h1,goInt]) (.d .int) h) hrun
    ·rename_i e s' by' z q hti hx
     obtain⟨ad,h1⟩:∃ad,a.eval x=.slice ad 0 0:=by
      have:=hev.eq hx
      cases this with|d this=>generalize a.eval x=y at*;cases this;exact⟨_,rfl⟩
     exact fin (.same (v:=.int .i64 0) (by simp[Builtin.len_,run_underlying (ZX (hT.ok _ _ hti) rfl),h1,goInt]) (.d .int) h) hrun
    ·rename_i s' by' z q st hti hx
     have h1:=(hev.eq hx).str_inv;exact fin (.same (v:=.int .i64 st.size) (by simp[Builtin.len_,run_underlying (QgM (hT.ok _ _ hti) rfl),h1,goInt]) (.d .int) h) hrun
    ·exact h.no.elim
   ·exact h.no.elim
  ·rename_i hcal;split at h
   ·rename_i x y hargs;have hargs:c.args=#[x,y]:=by apply Xc;simpa using hargs
    have hrun:∀w',(execOp a.eval ⟨dst,.call c,ty,pos,after,guard⟩).run P w'=((Builtin.max_ c.argTypes ty #[a.eval x,a.eval y]>>=fun v=>(pure (.value v):Sem Next)).run P w'):=fun w'=>by
     simp only[execOp,resolve,hcal,hargs,pure_bind,invoke,builtin,XL,YC,Y06]
    split at h
    ·rename_i k n k' m hx hy;have h1:=(hev.eq hx).int_inv;have h2:=(hev.eq hy).int_inv;exact fin (.same (v:=.int k (if m>n then m else n)) (by simp[Builtin.max_,Builtin.max2,h1,h2]) (.d .int) h) hrun
    ·exact h.no.elim
   ·exact h.no.elim
  ·rename_i hcal;split at h
   ·rename_i x y hargs;have hargs:c.args=#[x,y]:=by apply Xc;simpa using hargs
    have hrun:∀w',(execOp a.eval ⟨dst,.call c,ty,pos,after,guard⟩).run P w'=((Builtin.min_ c.argTypes ty #[a.eval x,a.eval y]>>=fun v=>(pure (.value v):Sem Next)).run P w'):=fun w'=>by
     simp only[execOp,resolve,hcal,hargs,pure_bind,invoke,builtin,XL,YC,Y06]
    split at h
    ·rename_i k n k' m hx hy;have h1:=(hev.eq hx).int_inv;have h2:=(hev.eq hy).int_inv;exact fin (.same (v:=.int k (if m<n then m else n)) (by simp[Builtin.min_,Builtin.min2,h1,h2]) (.d .int) h) hrun
    ·exact h.no.elim
   ·exact h.no.elim
  ·exact h.no.elim
end Go.Ab
namespace Go.Ab
open Go.RowKit
variable {P:Program} {tb:Tb} {w:World} {ow:Nat→Prop} {ρ:Env} {a:Act} {B:Bd} {w0:World} {F:List (Array Value)} {S:St}
structure SimO (P:Program) (ow:Nat→Prop) (B:Bd) (w0:World) (F:List (Array Value)) (ρ:Env) (S:St) (a:Act) (w:World):Prop where
 below:KeptD B w0 w
 tab:TabB P B w0
 hB:∀b,B b→b<w.heap.size
 defers:a.defers=[]
 nt:a.tmps.size=S.nt
 top:FrR w ow ρ ⟨S.tmps,S.gds⟩ a.tmps
 blks:∀id b,Qi S.blks id=some b→BR w ow ρ id b
 sep:∀i j x y,Qi S.blks i=some x→Qi S.blks j=some y→(ρ i).ph=false→(ρ j).ph=false→(ρ i).b=(ρ j).b→i=j
 ge:∀i x,Qi S.blks i=some x→(ρ i).ph=false→B.free (ρ i) x.bx
 frames:S.frames.length=F.length∧∀(i:Nat) (f:Fr) (tm:Array Value),S.frames[i]? =some f→F[i]? =some tm→FrR w ow ρ f tm
theorem Sim.o (h:Sim P B w0 F ρ S a w):SimO P (ZL B S.blks ρ) B w0 F ρ S a w:=⟨h.below,h.tab,h.hB,h.defers,h.nt,h.top,h.blks,h.sep,h.ge,h.frames⟩
def Env.set (ρ:Env) (id:Nat) (l:Loc):Env:=fun i=>if i=id then l else ρ i
theorem Env.set_same {ρ:Env} {id l}:ρ.set id l id=l:=by simp[Env.set]
theorem Env.set_other {ρ:Env} {id l i} (h:i≠id):ρ.set id l i=ρ i:=by simp[Env.set,h]
theorem QZ {α:Type} {l:List (Nat×α)} {i j:Nat} {x y:α} (h:Qi ((i,x)::l) j=some y):(i=j∧x=y)∨(i≠j∧Qi l j=some y):=by
 simp only[Qi] at h;split at h
 ·rename_i hb;cases h;exact .inl ⟨Y5 hb,rfl⟩
 ·rename_i hb;exact .inr ⟨fun e=>by subst e;simp at hb,h⟩
theorem Zk {α:Type} {l:List (Nat×α)} {i:Nat} {x:α}:Qi ((i,x)::l) i=some x:=by simp[Qi]
theorem QQ {α:Type} {l:List (Nat×α)} {i j:Nat} {x:α} (h:i≠j):Qi ((i,x)::l) j=Qi l j:=by
 have hb:Nat.beq i j=false:=by cases hb:Nat.beq i j;rfl;exact absurd (Y5 hb) h
 simp[Qi,hb]
theorem St.mentions_parts {S:St} {id:Nat} (h:S.mentions id=false):Jv id S.tmps=false∧Jw id S.gds=false∧Q4 id S.blks=false∧QcM id S.frames=false:=by
 unfold St.mentions at h;split at h
 ·cases h
 ·rename_i h1;split at h
  ·cases h
  ·rename_i h2;split at h
   ·cases h
   ·rename_i h3;exact⟨h1,h2,h3,h⟩
theorem Qdr {id:Nat} {i:Nat} {p:Nat->Bool} (h:p id=false) (hi:p i=true):i≠id:=fun e=>by subst e;rw[h] at hi;cases hi
theorem Qgp {id:Nat} {blk:Blk} {loc:Loc} {w':World} (h:SimO P ow B w0 F ρ S a w) (hm:S.mentions id=false) (a2:∀b,ZL B S.blks ρ b->ow b) (a6:w.heap.size<=w'.heap.size)
  (a1:∀b,b<w.heap.size->(¬ow b∨own S.blks ρ b)->w'.heap[b]? =w.heap[b]?) (a8:∀b,B b->w'.heap[b]? =w.heap[b]?) (a5:∀b k,B.cel b k->w'.cell? ⟨b,k,none⟩=w.cell? ⟨b,k,none⟩)
  (I:loc.ph=false->w.heap.size<=loc.b∨(ow loc.b∧¬own S.blks ρ loc.b)) (b4:loc.ph=false->B.free loc blk.bx) (b3:w'.os=w.os) (a3:w'.tape=w.tape) (a9:w'.output=w.output)
  (b2:Keep w ow w' (ZL B ((id,blk)::S.blks) (ρ.set id loc))->BR w' (ZL B ((id,blk)::S.blks) (ρ.set id loc)) (ρ.set id loc) id blk):
  Sim P B w0 F (ρ.set id loc) ⟨S.base,S.nt,S.tmps,S.gds,(id,blk)::S.blks,S.frames⟩ a w':=by
 have⟨m1,m2,m3,m4⟩:=St.mentions_parts hm;have hne:∀i k,Qi S.blks i=some k->i≠id:=fun i k hk e=>by
  subst e;have:=ZW (id:=i) hk (.inl rfl);rw[m3] at this;cases this
 have a4:∀b,own ((id,blk)::S.blks) (ρ.set id loc) b->(loc.ph=false∧loc.b=b)∨own S.blks ρ b:=by
  rintro b ⟨i,k,hk,hp,rfl⟩;rcases QZ hk with ⟨rfl,_⟩|⟨hn,hk⟩
  ·rw[Env.set_same] at hp|-;exact .inl ⟨hp,rfl⟩
  ·rw[Env.set_other (YU hn)] at hp|-;exact .inr ⟨i,k,hk,hp,rfl⟩
 have keep:Keep w ow w' (ZL B ((id,blk)::S.blks) (ρ.set id loc)):=⟨a6,fun b hb ho=>⟨a1 b hb (.inl ho),fun U=>by
  rcases U.imp (a4 b) (fun h=>h) with U|U
  case inr=>exact ho (a2 b (.inr U))
  rcases U with ⟨h1,rfl⟩|h2
  ·rcases I h1 with h3|h3
   ·omega
   ·exact ho h3.1
  ·exact ho (a2 b (.inl h2))⟩⟩
 have hr:∀i,i≠id->ρ.set id loc i=ρ i:=fun i hi=>Env.set_other hi;refine⟨h.below.next b3 a3 a9 a6 a8 a5,h.tab,fun b hb=>YH (h.hB b hb) a6,h.defers,h.nt,?_,?_,?_,?_,h.frames.1,?_⟩
 ·exact h.top.keep keep fun i hi=>hr i (by rcases hi with hi|hi;exact Qdr (p:=fun i=>Jv i S.tmps) m1 hi;exact Qdr (p:=fun i=>Jw i S.gds) m2 hi)
 ·intro i b hb;rcases QZ hb with ⟨rfl,rfl⟩|⟨hn,Y⟩
  ·exact b2 keep
  ·refine(h.blks i b Y).keep keep (hr i (YU hn)) (fun hp=>a1 _ ((h.blks i b Y).lt hp) (.inr ⟨i,b,Y,hp,rfl⟩)) fun j hj=>hr j fun e=>?_;subst e;have:Q4 j S.blks=true:=ZW (id:=j) Y (.inr hj);rw[m3] at this;cases this
 ·intro i j x y hx hy J O G;rcases QZ hx with ⟨rfl,_⟩|⟨hn,hx⟩<;>rcases QZ hy with ⟨rfl,_⟩|⟨a7,hy⟩
  ·rfl
  ·rw[Env.set_same] at J G;rw[Env.set_other (YU a7)] at O G;rcases I J with h3|h3
   ·have:=(h.blks j y hy).lt O;omega
   ·exact absurd ⟨j,y,hy,O,G.symm⟩ h3.2
  ·rw[Env.set_same] at O G;rw[Env.set_other (YU hn)] at J G;rcases I O with h3|h3
   ·have:=(h.blks i x hx).lt J;omega
   ·exact absurd ⟨i,x,hx,J,G⟩ h3.2
  ·rw[Env.set_other (YU hn)] at J G;rw[Env.set_other (YU a7)] at O G;exact h.sep i j x y hx hy J O G
 ·intro i x hx hp;rcases QZ hx with ⟨rfl,rfl⟩|⟨hn,hx⟩
  ·rw[Env.set_same] at hp|-;exact b4 hp
  ·rw[Env.set_other (YU hn)] at hp|-;exact h.ge i x hx hp
 ·intro i f tm hf ht;refine(h.frames.2 i f tm hf ht).keep keep fun j hj=>hr j fun e=>?_;subst e;have:=QeB (id:=j) hf hj;rw[m4] at this;cases this
theorem QsZ {id:Nat} {blk:Blk} {loc:Loc} (h:Sim P B w0 F ρ S a w) (hm:S.mentions id=false) (C:Array Value) (t:TypeId) (hb:loc.b=w.heap.size)
  (G:∀ow',Keep w (ZL B S.blks ρ) (w.alloc (.cells C t)) ow'->BR (w.alloc (.cells C t)) ow' (ρ.set id loc) id blk):
  Sim P B w0 F (ρ.set id loc) ⟨S.base,S.nt,S.tmps,S.gds,(id,blk)::S.blks,S.frames⟩ a (w.alloc (.cells C t)):=
 Qgp h.o hm (fun _ h=>h) (by simp) (fun b hb _=>Below.heap_alloc w _ b hb) (fun b hb=>Below.heap_alloc w _ b (h.hB b hb)) (fun b k hc=>World.cell?_of_block (Below.heap_alloc w _ b (YH (h.below.clt b k hc) h.below.size))) (fun _=>.inl (by omega))
  (fun _=>⟨fun I=>by have:=h.hB _ I;omega,fun k hc=>by have:=h.below.clt _ k hc;have:=h.below.size;omega⟩) rfl rfl rfl fun k=>G _ k
theorem Qke {α β:Type} (f:α->β):∀(l:List (Nat×α)) (t:Nat),Qi (l.map fun p=>(p.1,f p.2)) t=(Qi l t).map f
 |[],t=>rfl
 |(u,v)::r,t=>by
  simp only[YC,Qi];split
  ·rfl
  ·exact Qke f r t
theorem FrR.kill {f:Fr} {tm:Array Value} (h:FrR w ow ρ f tm) (id:Nat):FrR w ow ρ ⟨Qgl id f.tmps,Qhu id f.gds⟩ tm:=by
 refine⟨fun t v hv=>?_,fun g I=>?_⟩
 ·simp only[Qgl] at hv;rw[Qke (V.kill id)] at hv;obtain⟨u,J,rfl⟩:=Yc.1 hv;exact(h.tmps t u J).kill id
 ·simp only[Qhu] at I;obtain⟨O,G,rfl⟩:=YI.1 I;rcases(h.gds O G).h with h1|h1
  ·exact⟨.inl ⟨h1.1,h1.2.kill id⟩⟩
  ·exact⟨.inr h1⟩
theorem QbI {id:Nat}:∀ {bs:List (Nat×Blk)} {i:Nat} {b:Blk},Qi (QcX id bs) i=some b->i≠id∧∃b0,Qi bs i=some b0∧b=b0.kill id
 |(u,x)::r,i,b,h=>by
  simp only[QcX] at h;split at h
  ·rename_i hb;have:=Y5 hb;subst this;have⟨h1,b0,h2,h3⟩:=QbI h;exact⟨h1,b0,by rw[QQ (YU h1)];exact h2,h3⟩
  ·rename_i hb;rcases QZ h with ⟨rfl,rfl⟩|⟨G,h⟩
   ·exact⟨fun e=>by subst e;simp at hb,x,Zk,rfl⟩
   ·have⟨h1,b0,h2,h3⟩:=QbI h;exact⟨h1,b0,by rw[QQ G];exact h2,h3⟩
 |[],_,_,h=>by simp[QcX,Qi] at h
theorem BR.kill {i:Nat} {b:Blk} (h:BR w ow ρ i b) (id:Nat):BR w ow ρ i (b.kill id):=by
 cases h with
 |box C h1 h2 h3 h4 h5 h6 I G=>
  refine .box C h1 h2 (by rw[Qbu];exact h3) h4 h5 (by rw[Qbu];exact h6) (by rw[Qbu];exact I) fun j v hj=>?_;rw[Qgm] at hj;obtain⟨u,J,rfl⟩:=Yc.1 hj;exact(G j u J).kill id
 |arr0 h1 h2 h3 h4=>exact .arr0 h1 h2 h3 h4
 |arr C et h1 h2 h3 h4 h5 h6 I G=>exact .arr C et h1 h2 h3 h4 h5 h6 I G
theorem Qou (h:SimO P ow B w0 F ρ S a w) (id:Nat):SimO P ow B w0 F ρ ⟨S.base,S.nt,Qgl id S.tmps,Qhu id S.gds,QcX id S.blks,Qic id S.frames⟩ a w:=by
 refine⟨h.below,h.tab,h.hB,h.defers,h.nt,h.top.kill id,?_,?_,?_,?_,?_⟩
 ·intro i b hb;obtain⟨_,b0,h2,rfl⟩:=QbI hb;exact(h.blks i b0 h2).kill id
 ·intro i j x y U hy;have⟨_,O,G,_⟩:=QbI U;have⟨_,y0,J,_⟩:=QbI hy;exact h.sep i j O y0 G J
 ·intro i x U;obtain⟨_,O,G,rfl⟩:=QbI U;rw[Blk.kill_bx];exact h.ge i O G
 ·simpa[Qic] using h.frames.1
 ·intro i f tm Y ht;simp only[Qic,Yz] at Y;obtain⟨f0,I,rfl⟩:=Yc.1 Y;exact(h.frames.2 i f0 tm I ht).kill id
theorem Qhb (id:Nat) (ts:List (Nat×V)):Jv id (Qgl id ts)=false:=by
 induction ts with
 |nil=>rfl
 |cons p r G=>
  have:(p.2.kill id).mentions id=false:=by
   cases h:(p.2.kill id).mentions id
   ·rfl
   ·exact absurd rfl (V.kill_mentions id id p.2 h).1
  simp only[Qgl,YC,Jv,this];exact G
theorem Qhc (id:Nat) (gs:List Gd):Jw id (Qhu id gs)=false:=by
 induction gs with
 |nil=>rfl
 |cons p r G=>
  have:(p.v.kill id).mentions id=false:=by
   cases h:(p.v.kill id).mentions id
   ·rfl
   ·exact absurd rfl (V.kill_mentions id id p.v h).1
  simp only[Qhu,YC,Jw,this];exact G
theorem Ql9 (id:Nat) (bs:List (Nat×Blk)):Q4 id (QcX id bs)=false:=by
 induction bs with
 |nil=>rfl
 |cons p r G=>
  have⟨i,b⟩:=p;simp only[QcX];split
  ·exact G
  ·rename_i hb;have:(b.kill id).mentions id=false:=by
    cases b with
    |arr=>rfl
    |box t cs=>
     simp only[Blk.kill,Blk.mentions]
     cases h:QU id (Qd3 id cs)
     ·rfl
     ·exact absurd rfl (QbY id id cs h).1
   simp only[Q4,hb,this];exact G
theorem Qma (id:Nat) (fs:List Fr):QcM id (Qic id fs)=false:=by
 induction fs with
 |nil=>rfl
 |cons p r G=>
  simp only[Qic,YC,QcM,Qhb,Qhc];exact G
theorem St.kill_mentions (S:St) (id:Nat):St.mentions ⟨S.base,S.nt,Qgl id S.tmps,Qhu id S.gds,QcX id S.blks,Qic id S.frames⟩ id=false:=by
 simp[St.mentions,Qhb,Qhc,Ql9,Qma]
theorem JG {id:Nat} {x:Blk}:∀ {bs:List (Nat×Blk)} {i:Nat} {b:Blk},Qi (QfQ bs id x) i=some b->(i=id∧b=x∧∃b0,Qi bs id=some b0)∨(i≠id∧Qi bs i=some b)
 |(u,y)::r,i,b,h=>by
  simp only[QfQ] at h;split at h
  ·rename_i hb;have:=Y5 hb;subst this;rcases QZ h with ⟨rfl,rfl⟩|⟨I,h⟩
   ·exact .inl ⟨rfl,rfl,y,Zk⟩
   ·exact .inr ⟨YU I,by rw[QQ I];exact h⟩
  ·rename_i hb;have G:u≠id:=fun e=>by subst e;simp at hb
   rcases QZ h with ⟨rfl,rfl⟩|⟨I,h⟩
   ·exact .inr ⟨G,Zk⟩
   ·rcases JG h with ⟨h1,h2,b0,h3⟩|⟨h1,h2⟩
    ·exact .inl ⟨h1,h2,b0,by rw[QQ G];exact h3⟩
    ·exact .inr ⟨h1,by rw[QQ I];exact h2⟩
 |[],_,_,h=>by simp[QfQ,Qi] at h
theorem Qkf {id:Nat} {x b0:Blk} {bs:List (Nat×Blk)} (G:Qi bs id=some b0) {b:Nat}:own (QfQ bs id x) ρ b->own bs ρ b:=by
 rintro⟨i,k,hk,hp,rfl⟩;rcases JG hk with ⟨rfl,_⟩|⟨_,hk⟩
 ·exact⟨i,b0,G,hp,rfl⟩
 ·exact⟨i,k,hk,hp,rfl⟩
theorem QkZ {id:Nat} {b0 blk:Blk} (h:Sim P B w0 F ρ S a w) (J:Qi S.blks id=some b0) (hp:(ρ id).ph=false) (C:Array Value) (a4:blk.bx=b0.bx) (O:b0.bx=true->∀k,(k<(ρ id).o∨(ρ id).o+(ρ id).cap*(ρ id).sz<=k)->(w.setRow (ρ id).b C).cell? ⟨(ρ id).b,k,none⟩=w.cell? ⟨(ρ id).b,k,none⟩)
  (a2:∀ow',Keep w (ZL B S.blks ρ) (w.setRow (ρ id).b C) ow'->BR (w.setRow (ρ id).b C) ow' ρ id blk):
  Sim P B w0 F ρ ⟨S.base,S.nt,S.tmps,S.gds,QfQ S.blks id blk,S.frames⟩ a (w.setRow (ρ id).b C):=by
 have G:∀b,b≠(ρ id).b->(w.setRow (ρ id).b C).heap[b]? =w.heap[b]?:=fun b hb=>setRow_other w _ b C hb;have keep:Keep w (ZL B S.blks ρ) (w.setRow (ρ id).b C) (ZL B (QfQ S.blks id blk) ρ):=⟨by simp,fun b hb ho=>⟨G b fun e=>ho (.inl ⟨id,b0,J,hp,e.symm⟩),fun a5=>ho (a5.imp (Qkf J) fun h=>h)⟩⟩;have Y:=h.ge id b0 J hp;refine⟨h.below.next rfl rfl rfl (by simp) (fun k hk=>G k (fun e=>Y.blk (e▸hk))) (fun b k hc=>by
   by_cases e:b=(ρ id).b
   ·subst e;have⟨q1,q2⟩:=Y.cel k hc;exact O q1 k q2
   ·exact World.cell?_of_block (G b e)),h.tab,by simpa using h.hB,h.defers,h.nt,h.top.keep keep fun _ _=>rfl,?_,?_,?_,h.frames.1,
  fun i f tm hf ht=>(h.frames.2 i f tm hf ht).keep keep fun _ _=>rfl⟩
 ·intro i b hb;rcases JG hb with ⟨rfl,rfl,_⟩|⟨hn,hb⟩
  ·exact a2 _ keep
  ·exact(h.blks i b hb).keep keep rfl (fun a3=>G _ fun e=>hn (h.sep i id b b0 hb J a3 hp e)) fun _ _=>rfl
 ·intro i j x y U hy;have I:∀i x,Qi (QfQ S.blks id blk) i=some x->∃x0,Qi S.blks i=some x0:=fun i x U=>by
   rcases JG U with ⟨rfl,_,b,hb⟩|⟨_,hb⟩
   ·exact⟨b,hb⟩
   ·exact⟨x,hb⟩
  have⟨x0,a6⟩:=I i x U;have⟨y0,a1⟩:=I j y hy;exact h.sep i j x0 y0 a6 a1
 ·intro i x U;rcases JG U with ⟨rfl,rfl,_⟩|⟨_,hb⟩
  ·rw[a4];exact h.ge i b0 J
  ·exact h.ge i x hb
theorem QjB (v:Value):VR w ow ρ (Qmj v) v:=by
 unfold Qmj;split
 ·exact .d .int
 ·exact .d .bool
 ·exact .d .str
 ·exact .d .nil
 ·exact .d (.zn (z:=.ptr))
 ·exact .d (.zn (z:=.func))
 ·exact .d (.zn (z:=.iface))
 ·exact .d (.zn (z:=.map))
 ·exact .any
end Go.Ab
