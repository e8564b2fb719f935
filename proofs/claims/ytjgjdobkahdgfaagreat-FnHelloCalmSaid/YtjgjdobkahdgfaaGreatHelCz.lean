/-
  Plain Lean: an end of the reference's that speaks.
-/
import Derived.Test.YtjgjdobkahdgfaaGreatKz5
import Derived.Test.YtjgjdobkahdgfaaGreatHelBz
set_option linter.all false
namespace Go.Proofs.YtjgjdobkahdgfaaGreat
open Go Go.Ab
set_option maxHeartbeats 1000000
set_option maxRecDepth 100000
theorem QlM {α:Type} [DecidableEq α]:∀ (a b:List α),a.Nodup→(∀ x ∈ a,x ∈ b)→a.length≤b.length
  | [],_,_,_=>Nat.zero_le _
  | x :: r,b,hn,hs=>by
    have hx:=hs x List.mem_cons_self;have h:=QlM r (b.erase x) (List.nodup_cons.1 hn).2 fun y hy=>(List.mem_erase_of_ne (show y ≠ x from fun e=>(List.nodup_cons.1 hn).1 (by rw [← e]; exact hy))).2 (hs y (List.mem_cons_of_mem _ hy));rw [List.length_erase_of_mem hx] at h;have:=List.length_pos_of_mem hx;simp only [List.length_cons];omega
def Qtf (e:Qxm):Int × Int:=(e.Addr,e.Len)
theorem QsA {t:List Qxm} (h:Inc idE t):(t.map Qtf).Nodup:=by
  refine List.pairwise_map.2 (h.imp fun {a b} q e=>?_);have e:(a.Addr,a.Len)=(b.Addr,b.Len):=e;rw [Prod.mk.injEq] at e;have:lessE a b=false:=QiV e.1 e.2;have q:lessE a b=true:=q;rw [this] at q; cases q
theorem QpS {t:List Qxm} (h:Ord idE t) {e:Qxm}:Qbk idE t e=true ↔ Qtf e ∈ t.map Qtf:=by
  rw [List.mem_map]
  constructor
  · intro q;obtain ⟨q1,q2,q3⟩:=J8.1 q;refine ⟨_,Zo q1,?_⟩;rw [Qtf,Qtf,Prod.mk.injEq];exact ⟨q2,q3⟩
  · intro ⟨r,hr,q⟩;rw [Qtf,Qtf,Prod.mk.injEq] at q;obtain ⟨i,hi,rfl⟩:=Je hr;exact (QdO h hi q).2
theorem QwC {s t:List Qxm} (h:To t) (k:s.Sublist t):To s:=⟨Nat.le_trans k.length_le h.len,fun x hx=>h.ent x (k.subset hx),h.ord.sublist k⟩
theorem QsB {t:List Qxm} (h:To t) {e:Qxm} (he:entryOk e=true) (hl:Qbk idE t e=false→t.length+1≤8):To (Qn3 t e):=by
  have ho:=QeC h;have w3:=QbG (f:=idE) t e;unfold Qn3
  cases hh:Qbk idE t e
  · have hl:=hl hh;simp only [Bool.false_eq_true,if_false];refine ⟨by simp; omega,fun x hx=>?_,Qst ho hh rfl⟩;rcases QmG hx with q | q
    · exact h.ent x q
    · rw [q]; exact he
  · obtain ⟨q1,q2,q3⟩:=J8.1 hh;simp only [if_true];refine ⟨by simpa using h.len,fun x hx=>?_,Qsu h.ord q1 ⟨q2.symm,q3.symm⟩⟩;rcases QiF hx with q | q
    · exact h.ent x q
    · rw [q]; exact he
theorem Qvz {t:List Qxm} (h:To t) (e:Qxm):To (Qhp t e):=by
  unfold Qhp;split
  · refine QwC h ?_;have:=List.take_append_drop (posK idE t e) t
    conv=>rhs; rw [← this]
    refine List.Sublist.append (List.Sublist.refl _) ?_;rw [← List.drop_drop];exact List.drop_sublist _ _
  · exact h
theorem QpT {a b:List Qxm} (ha:a.length≤1048576) (hb:b.length≤1048576) (ho:Ord idE b):QbR a b=some (match Z7 (fun i=>!Qbk idE b (a.getD i default)) a.length with | some i=>(a.getD i default,true) | none=>(⟨0,0,0,0⟩,false)):=by
  unfold QbR;rw [QbM a.length (fun i=>!Qbk idE b (a.getD i default)) (fun i=>Sum.inl ((a.getD i default).Addr,(a.getD i default).Len,(a.getD i default).Cost,(a.getD i default).Label)) (.inr ()) (fun i hi=>?_) (by rw [if_neg (by simp)]),Qb]
  · cases Z7 (fun i=>!Qbk idE b (a.getD i default)) a.length <;> rfl
  · rw [if_pos (by simp; omega),Qp (by omega),Qp (by omega),Int.toNat_natCast,QM hi (by omega),Qvt hb ho,Qb]
    cases Qbk idE b (a.getD i default)
    · rfl
    · simp only [if_true,Bool.not_true,Bool.false_eq_true,if_false];rw [if_neg (by simp <;> omega)]
def Qh7 (b:List Qxm) (x:Qxm):Bool:=!Qbk idE b x || !decide (b.getD (posK idE b x) default=x)
theorem QpU {a b:List Qxm} (ha:a.length≤1048576) (hb:b.length≤1048576) (ho:Ord idE b):QbS a b=some (match Z7 (fun i=>Qh7 b (a.getD i default)) a.length with | some i=>(a.getD i default,true) | none=>(⟨0,0,0,0⟩,false)):=by
  unfold QbS;rw [QbM a.length (fun i=>Qh7 b (a.getD i default)) (fun i=>Sum.inl ((a.getD i default).Addr,(a.getD i default).Len,(a.getD i default).Cost,(a.getD i default).Label)) (.inr ()) (fun i hi=>?_) (by rw [if_neg (by simp)]),Qb]
  · cases Z7 (fun i=>Qh7 b (a.getD i default)) a.length <;> rfl
  · have w3:=QbG (f:=idE) b (a.getD i default);rw [if_pos (by simp; omega),Qp (by omega),Int.toNat_natCast,QM hi (by omega),Qvt hb ho,Qb];unfold Qh7
    cases hh:Qbk idE b (a.getD i default)
    · simp only [Bool.false_eq_true,if_false,Bool.not_false,Bool.true_or,if_true];rw [Qp (fun c=>by simp at c),Qp (fun c=>by simp at c),if_pos (by simp),Qp (by omega)]
    · have q1:=(J8.1 hh).1;simp only [if_true,Bool.not_true,Bool.false_or];have hd:decide (((posK idE b (a.getD i default):Nat):Int) < 0)=false:=by simp <;> omega
      rw [hd,Qp (fun _=>by omega),Qp (fun _=>by omega),Int.toNat_natCast,Bool.false_or,Qp (by omega)];generalize b.getD (posK idE b (a.getD i default)) default=x;generalize a.getD i default=y;have:(x.Addr == y.Addr && (x.Len == y.Len && (x.Cost == y.Cost && (x.Label == y.Label && true))))=decide (x=y):=by
        cases x; cases y
        rw [Bool.eq_iff_iff];simp
      rw [this];split <;> rfl
theorem QiH {e:Qxp} (ht:To e.Told) (hw:To e.Want):Post (QaU e) fun c=>QV c=true∧To (JG e.Told c):=by
  have l1:=ht.len;have l2:=hw.len;unfold QaU;rw [QpT (by omega) (by omega) (QeC hw),Qb,QpU (by omega) (by omega) (QeC ht),Qb]
  cases hf:Z7 (fun i=>!Qbk idE e.Want (e.Told.getD i default)) e.Told.length with
  | some i =>
    obtain ⟨q1,_,_⟩:=ZK hf;have he:=ht.ent _ (Zo q1);dsimp only;rw [if_pos rfl];refine .ret ⟨?_,Qvz ht _⟩;simp only [entryOk,Bool.and_eq_true] at he;show (QdT _ _ && ((0:Int) == 0) && ((0:Int) == 0))=true;rw [he.1.1]; rfl
  | none =>
    have hn:=JP hf;dsimp only;rw [if_neg (by decide)]
    cases hg:Z7 (fun i=>Qh7 e.Told (e.Want.getD i default)) e.Want.length with
    | some i =>
      obtain ⟨q1,_,_⟩:=ZK hg;have he:=hw.ent _ (Zo q1);dsimp only;rw [if_pos rfl];refine .ret ⟨he,QsB ht he fun hh=>?_⟩;have sub:∀ x ∈ (e.Want.getD i default :: e.Told).map Qtf,x ∈ e.Want.map Qtf:=fun x hx=>by
        obtain ⟨y,hy,rfl⟩:=List.mem_map.1 hx;rcases List.mem_cons.1 hy with q | q
        · rw [q]; exact List.mem_map_of_mem (Zo q1)
        · obtain ⟨k,hk,rfl⟩:=Je q;have:=hn k hk;exact (QpS (QeC hw)).1 (by simpa using this)
      have nd:((e.Want.getD i default :: e.Told).map Qtf).Nodup:=by
        rw [List.map_cons];refine List.nodup_cons.2 ⟨fun c=>?_,QsA ht.ord⟩;rw [(QpS (QeC ht)).2 c] at hh; cases hh
      have:=QlM _ _ nd sub;simp only [List.length_map,List.length_cons] at this;omega
    | none =>
      dsimp only;rw [if_neg (by decide)];exact .ite (fun _=>.ret ⟨rfl,ht⟩) fun _=>.ret ⟨rfl,ht⟩
theorem Qq9 (s:Int) (w:Qxr):0≤Qrl s w∧Qrl s w < 2147483647:=Qe5 _ (by decide)
theorem ZX {e:Qxp} (h:Eo e):Lens e 16:=by
  obtain ⟨l1,l2,l3,l4⟩:=QiA (JI.2 h);exact ⟨by omega,by omega,by omega,by omega⟩
theorem QeD {e:Qxp} (h:Lens e 1048576):Zk e=some e:=Qhq h.k h.w h.t h.h
theorem Lens.mono {e:Qxp} {n m:Nat} (h:Lens e n) (k:n≤m):Lens e m:=⟨Nat.le_trans h.k k,Nat.le_trans h.w k,Nat.le_trans h.t k,Nat.le_trans h.h k⟩
theorem QsC {e:Qxp} (h:Eo e):Post (JW e) fun x=>Eo x.1∧(x.1.Name=e.Name∧x.1.Peer=e.Peer)∧(x.2.2=true→Jb x.2.1=true):=by
  have L:=(ZX h).mono (m:=1048576) (by decide);have hok:=JI.2 h;unfold JW;rw [QlH L.k L.t,hok,Qb,if_neg (by decide),QeD L,Qb];have hb:=h.boot;have ht:=h.turn;refine .ite (fun _=>.ret ⟨h,⟨rfl,rfl⟩,fun q=>by cases q⟩) fun cb=>.ite (fun ct=>?_) fun ct=>?_
  · have hl:=Qkw (Qkx h) h.heard;rw [QoB L.h hb,Qb,QeD ((ZX hl).mono (by decide)),Qb];exact .ret ⟨hl,⟨rfl,rfl⟩,fun q=>by cases q⟩
  · have cb:e.Boot ≠ 1000:=by simpa using cb
    have ct:e.Turn ≠ 1000000:=by simpa using ct
    rw [wrap_i64 (n:=e.Turn+1) (by omega) (by omega)];have hn:=h.num;refine .bd (Q:=fun x=>QV ⟨x.2.1,⟨x.2.2.1,x.2.2.2.1,x.2.2.2.2.1,x.2.2.2.2.2⟩⟩=true∧To (JG e.Told ⟨x.2.1,⟨x.2.2.1,x.2.2.2.1,x.2.2.2.2.1,x.2.2.2.2.2⟩⟩)∧(0≤x.1∧x.1≤e.Turn+1)∧(x.1=0→x.2.1=0)) ?_ fun x ⟨x1,x2,x3,x4⟩=>?_
    · refine .ite (fun _=>.bd (QiH (e:={ e with Turn:=e.Turn+1 }) h.told h.want) fun c ⟨c1,c2⟩=>.ite (fun k=>.ret ⟨c1,c2,?_,?_⟩) fun k=>.ret ⟨c1,c2,?_,?_⟩) fun _=>.ret ⟨h.under,h.ap,?_,h.nu⟩
      · dsimp only; rw [wrap_i64 (by omega) (by omega)]; omega
      · dsimp only; rw [wrap_i64 (by omega) (by omega)]; intro q; omega
      · dsimp only; omega
      · intro _;dsimp only;rw [Qdj c1] at k;simpa using k
      · dsimp only; omega
    · have hk:=h.keys;have hkk:(1≤(e.Keys.length:Int)∧(e.Keys.length:Int)≤3)∧QmW e.Keys.length (Qte e.Keys)=true:=by
        simp only [Qbb,Bool.and_eq_true,Jz] at hk;exact hk
      have e0:((e.Keys.length:Nat):Int) - 1=((e.Keys.length - 1:Nat):Int):=by omega
      rw [wrap_i64 (n:=((e.Keys.length:Nat):Int) - 1) (by omega) (by omega),e0,Int.toNat_natCast];refine .gd (by omega) ?_;rw [QpL,Qb];have hid:=Qfr hkk.2 (i:=e.Keys.length - 1) (by omega);simp only [Qte,Bool.and_eq_true,Jz] at hid;have g:=h.got;have pb:=h.pboot;have hs:=fun s w=>Qq9 s w;refine .ret ⟨{ h with turn:=?_,num:=x3,under:=x1,nu:=x4,ap:=x2 },⟨rfl,rfl⟩,fun _=>?_⟩
      · dsimp only; omega
      · simp only [Jb,Bool.and_eq_true,Jz,Bool.or_eq_true,beq_iff_eq,decide_eq_true_eq];refine ⟨⟨⟨⟨⟨⟨⟨⟨⟨⟨h.name,h.peer⟩,hid.1.1⟩,by omega⟩,by omega⟩,by omega⟩,x3⟩,by omega⟩,?_⟩,x1⟩,?_⟩
        · have:=hs (e.Keys.getD (e.Keys.length - 1) default).Secret ⟨e.Name,e.Peer,(e.Keys.getD (e.Keys.length - 1) default).Id,e.Boot,e.PeerBoot,e.Turn+1,x.1,e.Got,⟨x.2.1,⟨x.2.2.1,x.2.2.2.1,x.2.2.2.2.1,x.2.2.2.2.2⟩⟩,0⟩;omega
        · by_cases q:x.1=0
          · exact .inl (x4 q)
          · exact .inr (by omega)
end Go.Proofs.YtjgjdobkahdgfaaGreat
