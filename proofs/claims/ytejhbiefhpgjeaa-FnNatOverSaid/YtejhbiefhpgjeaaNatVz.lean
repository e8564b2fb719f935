/-
  Plain Lean: a book stays ok when ticks are told.
-/
import Derived.Test.YtejhbiefhpgjeaaKz3
import Derived.Test.YtejhbiefhpgjeaaNatTz
set_option linter.all false
namespace Go.Proofs.Ytejhbiefhpgjeaa
open Go Go.Ab
set_option maxHeartbeats 400000
theorem entryLess_iff {e f:NatEntry}:entryLess e f = true ↔ e.Kind < f.Kind ∨ (e.Kind = f.Kind ∧ (e.Peer < f.Peer ∨ (e.Peer = f.Peer ∧ (e.PeerPort < f.PeerPort ∨ (e.PeerPort = f.PeerPort ∧ e.Outer < f.Outer))))) := by
  simp [entryLess]
theorem entryLess_trans {a b c:NatEntry} (h:entryLess a b = true) (k:entryLess b c = true):entryLess a c = true := by
  rw [entryLess_iff] at *;omega
def EntR (b:NatBook) (e f:NatEntry):Prop := entryLess e f = true ∧ entryClash b e f = false
theorem entries_iff {b:NatBook}:b.entriesOk = true ↔ b.Entries.length ≤ 16 ∧ (∀ e ∈ b.Entries,entryOk b e = true) ∧ b.Entries.Pairwise (EntR b) := by
  unfold NatBook.entriesOk;rw [Bool.and_eq_true,decide_eq_true_eq];refine and_congr Iff.rfl ⟨fun h => ?_,fun ⟨h1,h2⟩ => allR_of fun i hi => ?_⟩
  · have at_:∀ i,i < b.Entries.length → entryOk b (b.Entries.getD i default) = true ∧ (i = 0 ∨ entryLess (b.Entries.getD (i - 1) default) (b.Entries.getD i default) = true) ∧ ∀ k,k < i → entryClash b (b.Entries.getD k default) (b.Entries.getD i default) = false := fun i hi => by
      have := allR_get h hi;simp only [entryAt,Bool.and_eq_true,Bool.or_eq_true,decide_eq_true_eq] at this;exact ⟨this.1.1,this.1.2,fun k hk => by simpa using allR_get this.2 hk⟩
    refine ⟨fun e he => ?_,List.pairwise_iff_getElem.2 fun k i hk hi hki => ?_⟩
    · obtain ⟨i,hi,rfl⟩ := List.getElem_of_mem he;have := (at_ i hi).1;rwa [List.getD_eq_getElem?_getD,List.getElem?_eq_getElem hi] at this
    · have l := chain (r := fun x y => entryLess x y) (fun h k => entryLess_trans h k) (f := fun i => b.Entries.getD i default) (n := b.Entries.length) (fun i h0 hi => by
        rcases (at_ i hi).2.1 with h | h
        · omega
        · exact h) i hi k hki
      have c := (at_ i hi).2.2 k hki;rw [List.getD_eq_getElem?_getD,List.getD_eq_getElem?_getD,List.getElem?_eq_getElem hk,List.getElem?_eq_getElem hi] at l c;exact ⟨l,c⟩
  · have gi:b.Entries.getD i default = b.Entries[i] := by rw [List.getD_eq_getElem?_getD,List.getElem?_eq_getElem hi]; rfl
    have pr:∀ k,(hk:k < i) → EntR b (b.Entries.getD k default) (b.Entries.getD i default) := fun k hk => by
      have := List.pairwise_iff_getElem.1 h2 k i (by omega) hi hk;rw [gi,List.getD_eq_getElem?_getD,List.getElem?_eq_getElem (by omega:k < b.Entries.length)];exact this
    unfold entryAt;rw [Bool.and_eq_true,Bool.and_eq_true,Bool.or_eq_true,decide_eq_true_eq];refine ⟨⟨by rw [gi]; exact h1 _ (List.getElem_mem hi),?_⟩,allR_of fun k hk => by rw [(pr k hk).2]; rfl⟩
    by_cases h0:i = 0
    · exact .inl h0
    · exact .inr (pr (i - 1) (by omega)).1
theorem entryOk_last {b:NatBook} {e:NatEntry} (h:entryOk b e = true):0 ≤ e.Last ∧ e.Last ≤ b.Now ∧ b.Now - e.Last < 12 := by
  simp only [entryOk,Bool.and_eq_true,decide_eq_true_eq] at h;exact ⟨h.1.1.2,h.1.2,h.2⟩
theorem live_iff {b:NatBook} {e:NatEntry} (h0:0 ≤ b.Now ∧ b.Now ≤ 1000000) (h1:0 ≤ e.Last ∧ e.Last ≤ 1000000):live b e = true ↔ b.Now - e.Last < 8 := by
  unfold live ageW;rw [wrap_i64 (by omega) (by omega),decide_eq_true_eq]
theorem now_in {b:NatBook} (h:b.ok = true):0 ≤ b.Now ∧ b.Now ≤ 1000000 := (frameOk_spec (ok_frame h)).2
theorem ok_parts {b:NatBook}:b.ok = true ↔ b.frameOk = true ∧ b.doorsOk = true ∧ b.entriesOk = true := by
  unfold NatBook.ok;rw [Bool.and_eq_true,Bool.and_eq_true,and_assoc]
theorem keep_iff {b:NatBook} {e:NatEntry} (h:0 ≤ b.Now ∧ b.Now ≤ 1000000) (hl:0 ≤ e.Last ∧ e.Last ≤ b.Now):keepW (IntKind.i64.wrap (b.Now + 1)) e = true ↔ b.Now + 1 - e.Last < 12 := by
  unfold keepW;rw [wrap_i64 (n := b.Now + 1) (by omega) (by omega),wrap_i64 (by omega) (by omega),decide_eq_true_eq]
theorem tick_ok {b:NatBook} (h:b.ok = true) (hn:b.Now ≠ 1000000):(tickOf b).ok = true ∧ (tickOf b).Now = b.Now + 1 := by
  obtain ⟨hf,hd,he⟩ := ok_parts.1 h;obtain ⟨n1,n2⟩ := now_in h;have en:(tickOf b).Now = b.Now + 1 := wrap_i64 (by omega) (by omega);obtain ⟨e1,e2,e3⟩ := entries_iff.1 he;refine ⟨ok_parts.2 ⟨?_,hd,entries_iff.2 ⟨Nat.le_trans (List.length_filter_le _ _) e1,fun e hm => ?_,?_⟩⟩,en⟩
  · unfold NatBook.frameOk at hf ⊢;rw [en];simp only [Bool.and_eq_true,decide_eq_true_eq] at hf ⊢;exact ⟨⟨hf.1.1,by omega⟩,by omega⟩
  · obtain ⟨m1,m2⟩ := List.mem_filter.1 hm;have ho := e2 e m1;have hl := entryOk_last ho;have := (keep_iff ⟨n1,n2⟩ ⟨hl.1,hl.2.1⟩).1 m2;unfold entryOk at ho ⊢;rw [en];simp only [Bool.and_eq_true,decide_eq_true_eq] at ho ⊢;exact ⟨⟨ho.1.1,by omega⟩,by omega⟩
  · refine (List.Pairwise.and_mem.1 (e3.filter (keepW (IntKind.i64.wrap (b.Now + 1))))).imp fun {e f} ⟨m1,m2,l,c⟩ => ⟨l,?_⟩;have k1 := entryOk_last (e2 e (List.mem_filter.1 m1).1);have k2 := entryOk_last (e2 f (List.mem_filter.1 m2).1)
    cases hc:entryClash (tickOf b) e f
    · rfl
    · unfold entryClash at hc c;rw [Bool.and_eq_true,Bool.and_eq_true] at hc;have l1 := (live_iff (b := tickOf b) (by rw [en]; omega) (by omega)).1 hc.1.2;have l2 := (live_iff (b := tickOf b) (by rw [en]; omega) (by omega)).1 hc.2;rw [en] at l1 l2;rw [hc.1.1,(live_iff (b := b) ⟨n1,n2⟩ (by omega)).2 (by omega),(live_iff (b := b) ⟨n1,n2⟩ (by omega)).2 (by omega)] at c;exact absurd c (by decide)
def ticks (b:NatBook):Nat → NatBook
  | 0 => b
  | i + 1 => (natTick (ticks b i)).1
theorem bad_tick {b:NatBook} (h:b.ok = false):natTick b = (⟨0,0,0,0,0,[],0,[]⟩,1) := by
  unfold natTick;rw [if_neg (by rw [h]; decide)]
theorem no_ok:(⟨0,0,0,0,0,[],0,[]⟩:NatBook).ok = false := by decide
theorem ticks_bad {b:NatBook} (h:b.ok = false):∀ i,(ticks b i).ok = false ∧ (natTick (ticks b i)).2 = 1 ∧ ticks b (i + 1) = ⟨0,0,0,0,0,[],0,[]⟩
  | 0 => ⟨h,by show (natTick b).2 = 1; rw [bad_tick h],by show (natTick b).1 = _; rw [bad_tick h]⟩
  | i + 1 => by
    have ih := (ticks_bad h i).2.2;have o:(ticks b (i + 1)).ok = false := by rw [ih]; exact no_ok
    exact ⟨o,by rw [bad_tick o],by show (natTick (ticks b (i + 1))).1 = _; rw [bad_tick o]⟩
structure Tk (b c:NatBook) (i:Nat):Prop where
  ok:c.ok = true
  own:c.Own = b.Own
  ins:∀ a,c.inside a = b.inside a
  low:c.Low = b.Low
  high:c.High = b.High
  sub:∀ e ∈ c.Entries,e ∈ b.Entries
  now:c.Now = b.Now + i ∨ (c.Now = 1000000 ∧ 1000000 < b.Now + i)
theorem ticks_good {b:NatBook} (h:b.ok = true):∀ i,Tk b (ticks b i) i
  | 0 => ⟨h,rfl,fun _ => rfl,rfl,rfl,fun _ h => h,.inl (by show b.Now = b.Now + ((0:Nat):Int); omega)⟩
  | i + 1 => by
    have ih := ticks_good h i;have hn := ih.now;have hin := now_in ih.ok;show Tk b (natTick (ticks b i)).1 (i + 1);unfold natTick;rw [if_pos ih.ok]
    by_cases c:(ticks b i).Now = 1000000
    · rw [if_pos c];exact ⟨ih.ok,ih.own,ih.ins,ih.low,ih.high,ih.sub,.inr ⟨c,by omega⟩⟩
    · rw [if_neg c];obtain ⟨t1,t2⟩ := tick_ok ih.ok c;exact ⟨t1,ih.own,ih.ins,ih.low,ih.high,fun e he => ih.sub e (List.mem_filter.1 he).1,.inl (by rw [t2]; omega)⟩
theorem tick_code {b:NatBook} (h:b.ok = true):(natTick b).2 = 0 ↔ b.Now ≠ 1000000 := by
  unfold natTick;rw [if_pos h];split
  · rename_i c;exact ⟨fun h => absurd (show (2:Int) = 0 from h) (by decide),fun h => absurd c h⟩
  · rename_i c;exact ⟨fun _ => c,fun _ => rfl⟩
theorem old_six {b c:NatBook} {i:Nat} (hb:b.ok = true) (h:Tk b c i) (hc:c.Now = b.Now + i) (hi:8 ≤ i) {k:Nat} (hk:k < b.Entries.length) :
    (natIn c ⟨(b.Entries.getD k default).Kind,(b.Entries.getD k default).Peer,(b.Entries.getD k default).PeerPort,b.Own,(b.Entries.getD k default).Outer⟩).2 = 6 := by
  obtain ⟨hf,hd,he⟩ := ok_parts.1 hb;obtain ⟨cf,cd,ce⟩ := ok_parts.1 h.ok;obtain ⟨e1,e2,e3⟩ := entries_iff.1 he;obtain ⟨g1,g2,g3⟩ := entries_iff.1 ce;have hm:b.Entries.getD k default ∈ b.Entries := by
    rw [List.getD_eq_getElem?_getD,List.getElem?_eq_getElem hk];exact List.getElem_mem hk
  have ho := e2 _ hm;generalize b.Entries.getD k default = e at *;have ho' := ho;simp only [entryOk,Bool.and_eq_true,decide_eq_true_eq,Bool.not_eq_true',beq_eq_false_iff_ne] at ho';obtain ⟨⟨⟨⟨⟨⟨⟨⟨⟨⟨⟨⟨⟨⟨⟨a1,a2⟩,a3⟩,a4⟩,a5⟩,a6⟩,a7⟩,a8⟩,a9⟩,b1⟩,b2⟩,b3⟩,b4⟩,b5⟩,b6⟩,b7⟩ := ho';have hf' := hf;simp only [NatBook.frameOk,Bool.and_eq_true,decide_eq_true_eq,Bool.not_eq_true'] at hf';obtain ⟨⟨⟨⟨⟨⟨⟨⟨f1,f2⟩,f3⟩,f4⟩,f5⟩,f6⟩,f7⟩,f8⟩,f9⟩ := hf';unfold natIn;rw [if_neg (by rw [h.ok]; decide),if_neg (by
    have:flowOk ⟨e.Kind,e.Peer,e.PeerPort,b.Own,e.Outer⟩ = true := by
      simp only [flowOk,Bool.and_eq_true,decide_eq_true_eq];refine ⟨⟨⟨⟨⟨⟨⟨⟨⟨?_,?_⟩,?_⟩,?_⟩,?_⟩,?_⟩,?_⟩,?_⟩,?_⟩,?_⟩ <;> omega
    rw [this]; decide),if_neg (by
    dsimp only;rw [h.own,h.ins,a5];rintro (x | x | x)
    · exact x rfl
    · exact absurd x (by decide)
    · exact a6 x)]
  have hdoor:firstR (doorHit c ⟨e.Kind,e.Peer,e.PeerPort,b.Own,e.Outer⟩) c.Doors.length = none := by
    cases hx:firstR (doorHit c ⟨e.Kind,e.Peer,e.PeerPort,b.Own,e.Outer⟩) c.Doors.length with
    | none => rfl
    | some q =>
      obtain ⟨q1,q2,_⟩ := firstR_some hx;simp only [NatBook.doorsOk,Bool.and_eq_true] at cd;have := allR_get cd.2 q1;simp only [doorAt,Bool.and_eq_true] at this;have := this.1;simp only [doorOk,Bool.and_eq_true,decide_eq_true_eq,Bool.not_eq_true',Bool.and_eq_false_imp,decide_eq_false_iff_not] at this;have t := this.1.1.1.2;simp only [doorHit,Bool.and_eq_true,beq_iff_eq] at q2;have hl := h.low;have hh := h.high;exact absurd (by omega:(c.Doors.getD q default).Outer ≤ c.High) (t (by omega))
  have hent:firstR (entryHit c ⟨e.Kind,e.Peer,e.PeerPort,b.Own,e.Outer⟩) c.Entries.length = none := by
    cases hx:firstR (entryHit c ⟨e.Kind,e.Peer,e.PeerPort,b.Own,e.Outer⟩) c.Entries.length with
    | none => rfl
    | some q =>
      obtain ⟨q1,q2,_⟩ := firstR_some hx;have qm:c.Entries.getD q default ∈ c.Entries := by
        rw [List.getD_eq_getElem?_getD,List.getElem?_eq_getElem q1];exact List.getElem_mem q1
      have hl := entryOk_last (e2 _ (h.sub _ qm));simp only [entryHit,Bool.and_eq_true] at q2;have cn := now_in h.ok;have := (live_iff (b := c) cn (by omega)).1 q2.1.1.1.1;omega
  rw [hdoor];dsimp only;rw [hent]
theorem all_gone {b c:NatBook} (hb:b.ok = true) (h:Tk b c 12) (hn:b.Now + 12 ≤ 1000000):c.Entries = [] := by
  obtain ⟨hf,hd,he⟩ := ok_parts.1 hb;obtain ⟨e1,e2,e3⟩ := entries_iff.1 he;obtain ⟨cf,cd,ce⟩ := ok_parts.1 h.ok;obtain ⟨g1,g2,g3⟩ := entries_iff.1 ce;have hc := h.now;refine List.eq_nil_iff_forall_not_mem.2 fun e hm => ?_;have k1 := entryOk_last (g2 e hm);have k2 := entryOk_last (e2 e (h.sub e hm));omega
end Go.Proofs.Ytejhbiefhpgjeaa
