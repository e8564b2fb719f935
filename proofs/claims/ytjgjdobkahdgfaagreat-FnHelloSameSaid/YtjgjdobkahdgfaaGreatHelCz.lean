/-
  Plain Lean: an end of the reference's that speaks.
-/
import Derived.Test.YtjgjdobkahdgfaaGreatKz5
import Derived.Test.YtjgjdobkahdgfaaGreatHelBz
set_option linter.all false
namespace Go.Proofs.YtjgjdobkahdgfaaGreat
open Go Go.Ab
set_option maxHeartbeats 1000000
set_option maxRecDepth 100000
theorem Qlz {α:Type} [DecidableEq α]:∀ (a b:List α),a.Nodup→(∀ x ∈ a,x ∈ b)→a.length≤b.length
  | [],_,_,_=>Nat.zero_le _
  | x :: r,b,hn,hs=>by
    have hx:=hs x List.mem_cons_self;have h:=Qlz r (b.erase x) (List.nodup_cons.1 hn).2 fun y hy=>(List.mem_erase_of_ne (show y ≠ x from fun e=>(List.nodup_cons.1 hn).1 (by rw [← e]; exact hy))).2 (hs y (List.mem_cons_of_mem _ hy));rw [List.length_erase_of_mem hx] at h;have:=List.length_pos_of_mem hx;simp only [List.length_cons];omega
def Qs4 (e:Qw8):Int × Int:=(e.Addr,e.Len)
theorem Qsm {t:List Qw8} (h:Inc idE t):(t.map Qs4).Nodup:=by
  refine List.pairwise_map.2 (h.imp fun {a b} q e=>?_);have e:(a.Addr,a.Len)=(b.Addr,b.Len):=e;rw [Prod.mk.injEq] at e;have:lessE a b=false:=QiM e.1 e.2;have q:lessE a b=true:=q;rw [this] at q; cases q
theorem QpD {t:List Qw8} (h:Ord idE t) {e:Qw8}:Qbd idE t e=true ↔ Qs4 e ∈ t.map Qs4:=by
  rw [List.mem_map]
  constructor
  · intro q;obtain ⟨q1,q2,q3⟩:=J5.1 q;refine ⟨_,Zj q1,?_⟩;rw [Qs4,Qs4,Prod.mk.injEq];exact ⟨q2,q3⟩
  · intro ⟨r,hr,q⟩;rw [Qs4,Qs4,Prod.mk.injEq] at q;obtain ⟨i,hi,rfl⟩:=Z7 hr;exact (QdE h hi q).2
theorem Qwo {s t:List Qw8} (h:To t) (k:s.Sublist t):To s:=⟨Nat.le_trans k.length_le h.len,fun x hx=>h.ent x (k.subset hx),h.ord.sublist k⟩
theorem Qsn {t:List Qw8} (h:To t) {e:Qw8} (he:entryOk e=true) (hl:Qbd idE t e=false→t.length+1≤8):To (QnO t e):=by
  have ho:=QeV h;have w3:=Qbz (f:=idE) t e;unfold QnO
  cases hh:Qbd idE t e
  · have hl:=hl hh;simp only [Bool.false_eq_true,if_false];refine ⟨by simp; omega,fun x hx=>?_,Qsf ho hh rfl⟩;rcases Qmr hx with q | q
    · exact h.ent x q
    · rw [q]; exact he
  · obtain ⟨q1,q2,q3⟩:=J5.1 hh;simp only [if_true];refine ⟨by simpa using h.len,fun x hx=>?_,Qsg h.ord q1 ⟨q2.symm,q3.symm⟩⟩;rcases Qiw hx with q | q
    · exact h.ent x q
    · rw [q]; exact he
theorem Qvp {t:List Qw8} (h:To t) (e:Qw8):To (Qhd t e):=by
  unfold Qhd;split
  · refine Qwo h ?_;have:=List.take_append_drop (posK idE t e) t
    conv=>rhs; rw [← this]
    refine List.Sublist.append (List.Sublist.refl _) ?_;rw [← List.drop_drop];exact List.drop_sublist _ _
  · exact h
theorem QpE {a b:List Qw8} (ha:a.length≤1048576) (hb:b.length≤1048576) (ho:Ord idE b):QbK a b=some (match Z3 (fun i=>!Qbd idE b (a.getD i default)) a.length with | some i=>(a.getD i default,true) | none=>(⟨0,0,0,0⟩,false)):=by
  unfold QbK;rw [QbF a.length (fun i=>!Qbd idE b (a.getD i default)) (fun i=>Sum.inl ((a.getD i default).Addr,(a.getD i default).Len,(a.getD i default).Cost,(a.getD i default).Label)) (.inr ()) (fun i hi=>?_) (by rw [if_neg (by simp)]),Qb]
  · cases Z3 (fun i=>!Qbd idE b (a.getD i default)) a.length <;> rfl
  · rw [if_pos (by simp; omega),Qp (by omega),Qp (by omega),Int.toNat_natCast,QK hi (by omega),Qvj hb ho,Qb]
    cases Qbd idE b (a.getD i default)
    · rfl
    · simp only [if_true,Bool.not_true,Bool.false_eq_true,if_false];rw [if_neg (by simp <;> omega)]
def QhY (b:List Qw8) (x:Qw8):Bool:=!Qbd idE b x || !decide (b.getD (posK idE b x) default=x)
theorem QpF {a b:List Qw8} (ha:a.length≤1048576) (hb:b.length≤1048576) (ho:Ord idE b):QbL a b=some (match Z3 (fun i=>QhY b (a.getD i default)) a.length with | some i=>(a.getD i default,true) | none=>(⟨0,0,0,0⟩,false)):=by
  unfold QbL;rw [QbF a.length (fun i=>QhY b (a.getD i default)) (fun i=>Sum.inl ((a.getD i default).Addr,(a.getD i default).Len,(a.getD i default).Cost,(a.getD i default).Label)) (.inr ()) (fun i hi=>?_) (by rw [if_neg (by simp)]),Qb]
  · cases Z3 (fun i=>QhY b (a.getD i default)) a.length <;> rfl
  · have w3:=Qbz (f:=idE) b (a.getD i default);rw [if_pos (by simp; omega),Qp (by omega),Int.toNat_natCast,QK hi (by omega),Qvj hb ho,Qb];unfold QhY
    cases hh:Qbd idE b (a.getD i default)
    · simp only [Bool.false_eq_true,if_false,Bool.not_false,Bool.true_or,if_true];rw [Qp (fun c=>by simp at c),Qp (fun c=>by simp at c),if_pos (by simp),Qp (by omega)]
    · have q1:=(J5.1 hh).1;simp only [if_true,Bool.not_true,Bool.false_or];have hd:decide (((posK idE b (a.getD i default):Nat):Int) < 0)=false:=by simp <;> omega
      rw [hd,Qp (fun _=>by omega),Qp (fun _=>by omega),Int.toNat_natCast,Bool.false_or,Qp (by omega)];generalize b.getD (posK idE b (a.getD i default)) default=x;generalize a.getD i default=y;have:(x.Addr == y.Addr && (x.Len == y.Len && (x.Cost == y.Cost && (x.Label == y.Label && true))))=decide (x=y):=by
        cases x; cases y
        rw [Bool.eq_iff_iff];simp
      rw [this];split <;> rfl
theorem Qiy {e:Qxb} (ht:To e.Told) (hw:To e.Want):Post (QaM e) fun c=>QT c=true∧To (JD e.Told c):=by
  have l1:=ht.len;have l2:=hw.len;unfold QaM;rw [QpE (by omega) (by omega) (QeV hw),Qb,QpF (by omega) (by omega) (QeV ht),Qb]
  cases hf:Z3 (fun i=>!Qbd idE e.Want (e.Told.getD i default)) e.Told.length with
  | some i =>
    obtain ⟨q1,_,_⟩:=ZF hf;have he:=ht.ent _ (Zj q1);dsimp only;rw [if_pos rfl];refine .ret ⟨?_,Qvp ht _⟩;simp only [entryOk,Bool.and_eq_true] at he;show (QdK _ _ && ((0:Int) == 0) && ((0:Int) == 0))=true;rw [he.1.1]; rfl
  | none =>
    have hn:=JK hf;dsimp only;rw [if_neg (by decide)]
    cases hg:Z3 (fun i=>QhY e.Told (e.Want.getD i default)) e.Want.length with
    | some i =>
      obtain ⟨q1,_,_⟩:=ZF hg;have he:=hw.ent _ (Zj q1);dsimp only;rw [if_pos rfl];refine .ret ⟨he,Qsn ht he fun hh=>?_⟩;have sub:∀ x ∈ (e.Want.getD i default :: e.Told).map Qs4,x ∈ e.Want.map Qs4:=fun x hx=>by
        obtain ⟨y,hy,rfl⟩:=List.mem_map.1 hx;rcases List.mem_cons.1 hy with q | q
        · rw [q]; exact List.mem_map_of_mem (Zj q1)
        · obtain ⟨k,hk,rfl⟩:=Z7 q;have:=hn k hk;exact (QpD (QeV hw)).1 (by simpa using this)
      have nd:((e.Want.getD i default :: e.Told).map Qs4).Nodup:=by
        rw [List.map_cons];refine List.nodup_cons.2 ⟨fun c=>?_,Qsm ht.ord⟩;rw [(QpD (QeV ht)).2 c] at hh; cases hh
      have:=Qlz _ _ nd sub;simp only [List.length_map,List.length_cons] at this;omega
    | none =>
      dsimp only;rw [if_neg (by decide)];exact .ite (fun _=>.ret ⟨rfl,ht⟩) fun _=>.ret ⟨rfl,ht⟩
theorem QqT (s:Int) (w:Qxd):0≤Qq5 s w∧Qq5 s w < 2147483647:=QeU _ (by decide)
theorem ZT {e:Qxb} (h:Eo e):Lens e 16:=by
  obtain ⟨l1,l2,l3,l4⟩:=Qir (Jw.2 h);exact ⟨by omega,by omega,by omega,by omega⟩
theorem Qet {e:Qxb} (h:Lens e 1048576):Zg e=some e:=Qhe h.k h.w h.t h.h
theorem Lens.mono {e:Qxb} {n m:Nat} (h:Lens e n) (k:n≤m):Lens e m:=⟨Nat.le_trans h.k k,Nat.le_trans h.w k,Nat.le_trans h.t k,Nat.le_trans h.h k⟩
theorem Qso {e:Qxb} (h:Eo e):Post (JR e) fun x=>Eo x.1∧(x.1.Name=e.Name∧x.1.Peer=e.Peer)∧(x.2.2=true→Z4 x.2.1=true):=by
  have L:=(ZT h).mono (m:=1048576) (by decide);have hok:=Jw.2 h;unfold JR;rw [Qlu L.k L.t,hok,Qb,if_neg (by decide),Qet L,Qb];have hb:=h.boot;have ht:=h.turn;refine .ite (fun _=>.ret ⟨h,⟨rfl,rfl⟩,fun q=>by cases q⟩) fun cb=>.ite (fun ct=>?_) fun ct=>?_
  · have hl:=Qkk (Qkl h) h.heard;rw [Qon L.h hb,Qb,Qet ((ZT hl).mono (by decide)),Qb];exact .ret ⟨hl,⟨rfl,rfl⟩,fun q=>by cases q⟩
  · have cb:e.Boot ≠ 1000:=by simpa using cb
    have ct:e.Turn ≠ 1000000:=by simpa using ct
    rw [wrap_i64 (n:=e.Turn+1) (by omega) (by omega)];have hn:=h.num;refine .bd (Q:=fun x=>QT ⟨x.2.1,⟨x.2.2.1,x.2.2.2.1,x.2.2.2.2.1,x.2.2.2.2.2⟩⟩=true∧To (JD e.Told ⟨x.2.1,⟨x.2.2.1,x.2.2.2.1,x.2.2.2.2.1,x.2.2.2.2.2⟩⟩)∧(0≤x.1∧x.1≤e.Turn+1)∧(x.1=0→x.2.1=0)) ?_ fun x ⟨x1,x2,x3,x4⟩=>?_
    · refine .ite (fun _=>.bd (Qiy (e:={ e with Turn:=e.Turn+1 }) h.told h.want) fun c ⟨c1,c2⟩=>.ite (fun k=>.ret ⟨c1,c2,?_,?_⟩) fun k=>.ret ⟨c1,c2,?_,?_⟩) fun _=>.ret ⟨h.under,h.ap,?_,h.nu⟩
      · dsimp only; rw [wrap_i64 (by omega) (by omega)]; omega
      · dsimp only; rw [wrap_i64 (by omega) (by omega)]; intro q; omega
      · dsimp only; omega
      · intro _;dsimp only;rw [Qc6 c1] at k;simpa using k
      · dsimp only; omega
    · have hk:=h.keys;have hkk:(1≤(e.Keys.length:Int)∧(e.Keys.length:Int)≤3)∧QmG e.Keys.length (Qs3 e.Keys)=true:=by
        simp only [Qa5,Bool.and_eq_true,Jv] at hk;exact hk
      have e0:((e.Keys.length:Nat):Int) - 1=((e.Keys.length - 1:Nat):Int):=by omega
      rw [wrap_i64 (n:=((e.Keys.length:Nat):Int) - 1) (by omega) (by omega),e0,Int.toNat_natCast];refine .gd (by omega) ?_;rw [Qpw,Qb];have hid:=Qfi hkk.2 (i:=e.Keys.length - 1) (by omega);simp only [Qs3,Bool.and_eq_true,Jv] at hid;have g:=h.got;have pb:=h.pboot;have hs:=fun s w=>QqT s w;refine .ret ⟨{ h with turn:=?_,num:=x3,under:=x1,nu:=x4,ap:=x2 },⟨rfl,rfl⟩,fun _=>?_⟩
      · dsimp only; omega
      · simp only [Z4,Bool.and_eq_true,Jv,Bool.or_eq_true,beq_iff_eq,decide_eq_true_eq];refine ⟨⟨⟨⟨⟨⟨⟨⟨⟨⟨h.name,h.peer⟩,hid.1.1⟩,by omega⟩,by omega⟩,by omega⟩,x3⟩,by omega⟩,?_⟩,x1⟩,?_⟩
        · have:=hs (e.Keys.getD (e.Keys.length - 1) default).Secret ⟨e.Name,e.Peer,(e.Keys.getD (e.Keys.length - 1) default).Id,e.Boot,e.PeerBoot,e.Turn+1,x.1,e.Got,⟨x.2.1,⟨x.2.2.1,x.2.2.2.1,x.2.2.2.2.1,x.2.2.2.2.2⟩⟩,0⟩;omega
        · by_cases q:x.1=0
          · exact .inl (x4 q)
          · exact .inr (by omega)
end Go.Proofs.YtjgjdobkahdgfaaGreat
