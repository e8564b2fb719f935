/-
  Plain Lean: what the draws of flows that come and go give.
-/
import Derived.Test.YtaoeomoepefojabKz3
import Derived.Test.YtaoeomoepefojabNatPo4z
import Derived.Test.YtaoeomoepefojabNatO2bz
import Derived.Test.YtaoeomoepefojabNatW3z
set_option linter.all false
namespace Go.Proofs.Ytaoeomoepefojab
open Go Go.Ab
set_option maxHeartbeats 1000000

theorem getD_in {α : Type} [Inhabited α] {p : α → Prop} {xs : List α} {i : Int} (h : 0 ≤ i ∧ i < ((xs.length : Nat) : Int)) (hp : ∀ x ∈ xs, p x) : p (xs.getD i.toNat default) := hp _ (getD_mem (by omega))
/-- What the frames that are drawn have in common. -/
structure Fr (b : NatBook) : Prop where
  own : b.Own = 51201
  ins : ∀ a, b.inside a = true → 0 ≤ a ∧ a < 32768
theorem Fr.peer {b : NatBook} (h : Fr b) {a : Int} (ha : 51202 ≤ a) : b.inside a = false ∧ a ≠ b.Own := by
  refine ⟨?_, by rw [h.own]; omega⟩
  cases hi : b.inside a
  · rfl
  · have := h.ins a hi; omega
theorem port_post2 {r : l21Rd} {k : Int} (h : RdOk r k) (hk : k ≤ 1099511627776) : Post (spec_l25Port_m r) fun x => (1 ≤ x.1 ∧ x.1 ≤ 65535) ∧ RdOk ⟨r.b, x.2.p⟩ (k + 1) := by
  unfold spec_l25Port_m
  exact .bd (pick_post h hk (by omega)) fun x ⟨h1, h2⟩ => .gd h1 (.ret ⟨getD_in (p := fun v : Int => 1 ≤ v ∧ v ≤ 65535) h1 (by decide), h2⟩)
theorem peer_post2 {r : l21Rd} {k : Int} (h : RdOk r k) (hk : k ≤ 1099511627776) : Post (spec_l25Peer_m r) fun x => (51202 ≤ x.1 ∧ x.1 ≤ 65535) ∧ RdOk ⟨r.b, x.2.p⟩ (k + 1) := by
  unfold spec_l25Peer_m
  exact .bd (pick_post h hk (by omega)) fun x ⟨h1, h2⟩ => .gd h1 (.ret ⟨getD_in (p := fun v : Int => 51202 ≤ v ∧ v ≤ 65535) h1 (by decide), h2⟩)
theorem inner_post2 {r : l21Rd} {k : Int} (h : RdOk r k) (hk : k ≤ 1099511627000) {b : NatBook} (hb : netOk b.net = true) : Post (spec_l25Inner_m r b) fun x => b.inside x.1 = true ∧ RdOk ⟨r.b, x.2.p⟩ (k + 3) := by
  obtain ⟨c1, c2, c3, c4⟩ : 0 ≤ b.Len ∧ b.Len ≤ 16 ∧ 0 ≤ b.Addr ∧ b.Addr ≤ 65535 := netOk_spec hb
  unfold spec_l25Inner_m
  rw [l21In_p, bd_val, if_neg (by simp [c1, c2]), l22Size_p c1 c2, bd_val]
  have hp := netSize_pos b.Len
  have hs := netSize_le c1
  refine .bd (pick_post h (by omega) (by omega)) fun x ⟨g1, h1⟩ => .bd (pick_post h1 (by omega) (by omega)) fun y ⟨g2, h2⟩ => .gd (by omega) (.bd (pick_post h2 (by omega) (by omega)) fun z ⟨h3, h4⟩ => .gd h3 (.ret ⟨?_, h4.mono (by omega)⟩))
  have hv := getD_in (p := fun v : Int => 0 ≤ v ∧ v < netSize b.Len) (xs := [0, IntKind.i64.wrap (netSize b.Len - 1), x.1, ((y.1 : Int).tmod (netSize b.Len))]) h3 (by
    intro v hv
    simp only [List.mem_cons, List.not_mem_nil, or_false] at hv
    rcases hv with rfl | rfl | rfl | rfl
    · omega
    · rw [wrap_i64 (by omega) (by omega)]; omega
    · exact g1
    · exact ⟨Int.tmod_nonneg _ g2.1, Int.tmod_lt_of_pos _ hp⟩)
  generalize ([0, IntKind.i64.wrap (netSize b.Len - 1), x.1, ((y.1 : Int).tmod (netSize b.Len))] : List Int).getD z.1.toNat default = v at *
  dsimp only
  rw [wrap_i64 (by omega) (by omega)]
  show netHas b.net (b.Addr + v) = true
  simp only [netHas, Bool.and_eq_true, decide_eq_true_eq]
  show b.Addr ≤ b.Addr + v ∧ b.Addr + v < b.Addr + netSize b.Len
  omega
theorem outFlow_post2 {r : l21Rd} {k : Int} (h : RdOk r k) (hk : k ≤ 1099511620000) {b : NatBook} (hb : b.ok = true) : Post (spec_l25OutFlow_m r b) fun x => b.inside x.1.From = true ∧ RdOk ⟨r.b, x.2.p⟩ (k + 20) := by
  have e2 := (entries_iff.1 (ok_parts.1 hb).2.2).2.1
  unfold spec_l25OutFlow_m
  refine .bd (pick_post h (by omega) (by omega)) fun x1 ⟨_, h1⟩ => .bd (inner_post2 h1 (by omega) (frameOk_spec (ok_frame hb)).1) fun x2 ⟨i2, h2⟩ => .bd (port_post2 h2 (by omega)) fun x3 ⟨_, h3⟩ => .bd (peer_post2 h3 (by omega)) fun x4 ⟨_, h4⟩ => .bd (pick_post h4 (by omega) (by omega)) fun x5 ⟨g5, h5⟩ => .gd g5 ?_
  refine .bd (Q := fun x => b.inside x.2.1 = true ∧ RdOk ⟨r.b, x.2.2.2⟩ (k + 14)) (.bd (Q := fun x => RdOk ⟨r.b, x.2.p⟩ (k + 9)) (.gcallE (fun _ => (pick_post h5 (by omega) (by omega)).mono fun _ h => h.2.mono (by omega)) fun _ => h5.mono (by omega)) fun x9 h9 => .ite (fun c => by
      simp only [Bool.and_eq_true, decide_eq_true_eq] at c
      exact .bd (pick_post h9 (by omega) (by omega)) fun x10 ⟨g10, h10⟩ => .gd g10 (.ret ⟨(door_ok hb (getD_mem (i := x10.1.toNat) (by omega))).2.2.2.1, h10.mono (by omega)⟩)) fun _ => .ret ⟨i2, h9.mono (by omega)⟩) fun x6 ⟨i6, h6⟩ => ?_
  refine .bd (Q := fun x => RdOk ⟨r.b, x.2.p⟩ (k + 15)) (.gcallE (fun _ => (pick_post h6 (by omega) (by omega)).mono fun _ h => h.2.mono (by omega)) fun _ => h6.mono (by omega)) fun x12 h12 => ?_
  refine .ite (fun c => ?_) fun _ => .ret ⟨i6, h12.mono (by omega)⟩
  simp only [Bool.and_eq_true, decide_eq_true_eq] at c
  refine .bd (pick_post h12 (by omega) (by omega)) fun x13 ⟨g13, h13⟩ => .gd g13 ?_
  rw [specFlow_p, bd_val]
  exact .ret ⟨(entryOk_iff.1 (e2 _ (getD_mem (i := x13.1.toNat) (by omega)))).ins, h13.mono (by omega)⟩
/-- What comes in as it should. -/
structure In (b : NatBook) (f : NatFlow) : Prop where
  flow : FlowIn f
  to : f.To = b.Own
  from_ : b.inside f.From = false
  own : f.From ≠ b.Own
theorem inFlow_post2 {r : l21Rd} {k : Int} (h : RdOk r k) (hk : k ≤ 1099511620000) {b : NatBook} (hb : b.ok = true) (fr : Fr b) : Post (spec_l25InFlow_m r b) fun x => In b x.1 ∧ RdOk ⟨r.b, x.2.p⟩ (k + 20) := by
  have e2 := (entries_iff.1 (ok_parts.1 hb).2.2).2.1
  have hr := frame_range (ok_frame hb)
  have hown : 0 ≤ b.Own ∧ b.Own ≤ 65535 := ⟨hr.1, hr.2.1⟩
  unfold spec_l25InFlow_m
  refine .bd (pick_post h (by omega) (by omega)) fun x1 ⟨g1, h1⟩ => .bd (peer_post2 h1 (by omega)) fun x2 ⟨g2, h2⟩ => .bd (pick_post h2 (by omega) (by omega)) fun x3 ⟨g3, h3⟩ => .gd g3 (.bd (pick_post h3 (by omega) (by omega)) fun x5 ⟨g5, h5⟩ => ?_)
  have p3 := getD_in (p := fun v : Int => 1 ≤ v ∧ v ≤ 65535) (xs := [80, 443, 7]) g3 (by decide)
  refine .bd (Q := fun x => (1 ≤ x.1 ∧ x.1 ≤ 7) ∧ (1 ≤ x.2.1 ∧ x.2.1 ≤ 65535) ∧ RdOk ⟨r.b, x.2.2⟩ (k + 10)) (.bd (Q := fun x => RdOk ⟨r.b, x.2.p⟩ (k + 5)) (.gcallE (fun _ => (pick_post h5 (by omega) (by omega)).mono fun _ h => h.2.mono (by omega)) fun _ => h5.mono (by omega)) fun x9 h9 => .ite (fun c => by
      simp only [Bool.and_eq_true, decide_eq_true_eq] at c
      exact .bd (pick_post h9 (by omega) (by omega)) fun x10 ⟨g10, h10⟩ => .gd g10 (.ret ⟨(door_ok hb (getD_mem (i := x10.1.toNat) (by omega))).1, (door_ok hb (getD_mem (i := x10.1.toNat) (by omega))).2.1, h10.mono (by omega)⟩)) fun _ => .ret ⟨by dsimp only; rw [wrap_i64 (by omega) (by omega)]; omega, by dsimp only; rw [wrap_i64 (by omega) (by omega)]; omega, h9.mono (by omega)⟩) fun x6 ⟨k6, t6, h6⟩ => ?_
  refine .bd (Q := fun x => RdOk ⟨r.b, x.2.p⟩ (k + 11)) (.gcallE (fun _ => (pick_post h6 (by omega) (by omega)).mono fun _ h => h.2.mono (by omega)) fun _ => h6.mono (by omega)) fun x12 h12 => ?_
  refine .ite (fun c => ?_) fun _ => .ret ⟨⟨⟨k6, by dsimp only; omega, hown, p3, t6⟩, rfl, (fr.peer g2.1).1, (fr.peer g2.1).2⟩, h12.mono (by omega)⟩
  simp only [Bool.and_eq_true, decide_eq_true_eq] at c
  refine .bd (pick_post h12 (by omega) (by omega)) fun x13 ⟨g13, h13⟩ => .gd g13 (.bd (pick_post h13 (by omega) (by omega)) fun x15 ⟨_, h15⟩ => ?_)
  have E := entryOk_iff.1 (e2 _ (getD_mem (i := x13.1.toNat) (by omega)))
  generalize b.Entries.getD x13.1.toNat default = e at *
  have ho := E.outer
  have op : 1 ≤ e.Outer ∧ e.Outer ≤ 65535 := by omega
  have kk := E.k
  have pp := E.pp
  refine .ite (fun _ => .gd (by decide) (.ret ⟨⟨⟨E.k, E.peer, hown, ?_, op⟩, rfl, E.out, E.own⟩, h15.mono (by omega)⟩)) fun _ => .ite (fun _ => .bd (peer_post2 h15 (by omega)) fun x17 ⟨g17, h17⟩ => .ret ⟨⟨⟨E.k, by dsimp only; omega, hown, E.pp, op⟩, rfl, (fr.peer g17.1).1, (fr.peer g17.1).2⟩, h17.mono (by omega)⟩) fun _ => .ite (fun _ => .gd (by decide) (.ret ⟨⟨⟨?_, E.peer, hown, E.pp, op⟩, rfl, E.out, E.own⟩, h15.mono (by omega)⟩)) fun _ => .ret ⟨⟨⟨E.k, E.peer, hown, E.pp, op⟩, rfl, E.out, E.own⟩, h15.mono (by omega)⟩
  · have t1 := Int.tmod_nonneg 100 (a := e.PeerPort) (by omega)
    have t2 := Int.tmod_lt_of_pos e.PeerPort (b := 100) (by omega)
    dsimp only
    rw [wrap_i64 (by omega) (by omega)]
    omega
  · have t1 := Int.tmod_nonneg 3 (a := e.Kind) (by omega)
    have t2 := Int.tmod_lt_of_pos e.Kind (b := 3) (by omega)
    dsimp only
    rw [wrap_i64 (by omega) (by omega)]
    omega
def isFrame (a l h : Int) : Prop := ((a = 0 ∧ l = 1) ∨ (a = 2562 ∧ l = 15) ∨ (a = 2562 ∧ l = 16) ∨ (a = 2560 ∧ l = 8)) ∧ 40 ≤ h ∧ h ≤ 60
theorem isFrame_ok {a l h : Int} (H : isFrame a l h) : (⟨a, l, 51201, 40, h, [], 0, []⟩ : NatBook).ok = true := by
  obtain ⟨H1, H2, H3⟩ := H
  have hd : (⟨a, l, 51201, 40, h, [], 0, []⟩ : NatBook).doorsOk = true := rfl
  have he : (⟨a, l, 51201, 40, h, [], 0, []⟩ : NatBook).entriesOk = true := rfl
  refine ok_parts.2 ⟨?_, hd, he⟩
  have hn : netOk ⟨a, l⟩ = true ∧ netHas ⟨a, l⟩ 51201 = false := by
    rcases H1 with ⟨rfl, rfl⟩ | ⟨rfl, rfl⟩ | ⟨rfl, rfl⟩ | ⟨rfl, rfl⟩ <;> exact ⟨by decide, by decide⟩
  unfold NatBook.frameOk
  have h1 : netOk (NatBook.net ⟨a, l, 51201, 40, h, [], 0, []⟩) = true := hn.1
  have h2 : NatBook.inside ⟨a, l, 51201, 40, h, [], 0, []⟩ 51201 = false := hn.2
  dsimp only
  rw [h1, h2]
  simp
  omega
theorem isFrame_fr {a l h : Int} (H : isFrame a l h) (ds : List NatDoor) : Fr ⟨a, l, 51201, 40, h, ds, 0, []⟩ := by
  refine ⟨rfl, fun x hx => ?_⟩
  have hx : netHas ⟨a, l⟩ x = true := hx
  simp only [netHas, Bool.and_eq_true, decide_eq_true_eq] at hx
  rcases H.1 with ⟨rfl, rfl⟩ | ⟨rfl, rfl⟩ | ⟨rfl, rfl⟩ | ⟨rfl, rfl⟩
  · have : netSize 1 = 32768 := by decide
    omega
  · have : netSize 15 = 2 := by decide
    omega
  · have : netSize 16 = 1 := by decide
    omega
  · have : netSize 8 = 256 := by decide
    omega
structure Fresh (b : NatBook) : Prop where
  ok : b.ok = true
  none : b.Entries = []
  now : b.Now = 0
  fr : Fr b
theorem frame_post2 {r : l21Rd} {k : Int} (h : RdOk r k) (hk : k ≤ 1099511620000) : Post (spec_l25Frame_m r) fun x => Fresh x.1 ∧ RdOk ⟨r.b, x.2.p⟩ (k + 100) := by
  unfold spec_l25Frame_m
  refine .bd (pick_post h (by omega) (by omega)) fun x1 ⟨g1, h1⟩ => ?_
  rw [wrap_i64 (n := 40 + x1.1) (by omega) (by omega)]
  refine .bd (Q := fun x => isFrame x.1 x.2.1 x.2.2.1 ∧ RdOk ⟨r.b, x.2.2.2⟩ (k + 3)) (.bd (pick_post h1 (by omega) (by omega)) fun x5 ⟨_, h5⟩ => .ite (fun _ => .ret ⟨⟨.inl ⟨rfl, rfl⟩, by dsimp only; omega, by dsimp only; omega⟩, h5.mono (by omega)⟩) fun _ => .ite (fun _ => .bd (pick_post h5 (by omega) (by omega)) fun x6 ⟨g6, h6⟩ => .ret ⟨⟨?_, by dsimp only; omega, by dsimp only; omega⟩, h6.mono (by omega)⟩) fun _ => .ite (fun _ => .ret ⟨⟨.inr (.inr (.inr ⟨rfl, rfl⟩)), by dsimp only; omega, by dsimp only; omega⟩, h5.mono (by omega)⟩) fun _ => .ret ⟨⟨.inr (.inr (.inr ⟨rfl, rfl⟩)), by dsimp only; omega, by dsimp only; omega⟩, h5.mono (by omega)⟩) fun x2 ⟨f2, h2⟩ => ?_
  · dsimp only
    rw [wrap_i64 (n := 15 + x6.1) (by omega) (by omega)]
    omega
  refine .bd (pick_post h2 (by omega) (by omega)) fun x7 ⟨g7, h7⟩ => ?_
  refine .bd (Q := fun x => (⟨x2.1, x2.2.1, 51201, 40, x2.2.2.1, x.1, 0, []⟩ : NatBook).ok = true ∧ RdOk ⟨r.b, x.2⟩ (k + 100)) (.lp (fun s => 0 ≤ s.2.2 ∧ s.2.2 ≤ 3 ∧ (⟨x2.1, x2.2.1, 51201, 40, x2.2.2.1, s.1, 0, []⟩ : NatBook).ok = true ∧ RdOk ⟨r.b, s.2.1⟩ (k + 4 + 10 * (3 - s.2.2))) (fun s => s.2.2.toNat) ⟨g7.1, by dsimp only; omega, isFrame_ok f2, h7.mono (by dsimp only; omega)⟩ fun s hs => ?_) fun x hx => .ret ⟨⟨hx.1, rfl, rfl, isFrame_fr f2 _⟩, hx.2⟩
  obtain ⟨s1, s2, s3, s4⟩ := hs
  refine .ite (fun c => ?_) fun _ => .ret ⟨s3, s4.mono (by omega)⟩
  simp only [decide_eq_true_eq] at c
  have dl := (ok_lens s3).1
  refine .bd (pick_post s4 (by omega) (by omega)) fun x12 ⟨_, h12⟩ => .bd (pick_post h12 (by omega) (by omega)) fun x13 ⟨g13, h13⟩ => .gd g13 (.bd (inner_post h13 (by omega) _) fun x15 h15 => .bd (port_post h15 (by omega)) fun x16 h16 => .bd (putDoor_post (by dsimp only at dl; omega) _) fun x17 h17 => ?_)
  rw [specBookOk_p, bd_val, wrap_i64 (n := s.2.2 - 1) (by omega) (by omega)]
  exact .ite (fun c => .ret ⟨⟨by dsimp only; omega, by dsimp only; omega, c, h16.mono (by dsimp only; omega)⟩, by dsimp only; omega⟩) fun _ => .ret ⟨⟨by dsimp only; omega, by dsimp only; omega, s3, h16.mono (by dsimp only; omega)⟩, by dsimp only; omega⟩

/-! A book on its way. -/
structure Sm (b x : NatBook) : Prop where
  ok : x.ok = true
  own : x.Own = b.Own
  doors : x.Doors = b.Doors
  ins : ∀ a, x.inside a = b.inside a
theorem Sm.fr {b x : NatBook} (h : Sm b x) (k : Fr b) : Fr x := ⟨h.own.trans k.own, fun a ha => k.ins a (by rw [← h.ins]; exact ha)⟩
theorem Sm.tick {b x : NatBook} (h : Sm b x) : Sm b (natTick x).1 := by
  unfold natTick
  rw [if_pos h.ok]
  by_cases c : x.Now = 1000000
  · rw [if_pos c]; exact h
  · rw [if_neg c]; exact ⟨(tick_ok h.ok c).1, h.own, h.doors, h.ins⟩
theorem natOut_same {x : NatBook} (hx : x.ok = true) (f : NatFlow) : (natOut x f).1.Own = x.Own ∧ (natOut x f).1.Doors = x.Doors ∧ (∀ a, (natOut x f).1.inside a = x.inside a) ∧ (natOut x f).1.Now = x.Now := by
  rcases natOut_cases hx f with ⟨c, _, e⟩ | ⟨g, w⟩
  · rw [e]; exact ⟨rfl, rfl, fun _ => rfl, rfl⟩
  · generalize natOut x f = y at *
    cases w <;> exact ⟨rfl, rfl, fun _ => rfl, rfl⟩
theorem Sm.out {b x : NatBook} (h : Sm b x) (f : NatFlow) : Sm b (natOut x f).1 := by
  obtain ⟨h1, h2, h3, _⟩ := natOut_same h.ok f
  exact ⟨natOut_ok h.ok f, h1.trans h.own, h2.trans h.doors, fun a => (h3 a).trans (h.ins a)⟩
/-- A flow that is drawn: a tick; what goes out; what comes in. -/
def Cat (b : NatBook) (f : NatFlow) : Prop := f.Kind = 0 ∨ b.inside f.From = true ∨ In b f
theorem come_post {b : List Int} (hb : b.length ≤ 9223372036854775807) (h : ∀ x ∈ b, FitsB x) : Post (spec_DrawNatCome_m b) fun x => Fresh x.1 ∧ x.2.length ≤ 90 ∧ ∀ f ∈ x.2, Cat x.1 f := by
  unfold spec_DrawNatCome_m
  refine .bd (open_post hb h) fun x1 h1 => .bd (frame_post2 h1 (by omega)) fun x2 ⟨F, h2⟩ => .bd (pick_post h2 (by omega) (by omega)) fun x3 ⟨g3, h3⟩ => ?_
  rw [wrap_i64 (n := 3 + x3.1) (by omega) (by omega)]
  obtain ⟨B, rd⟩ := x2
  dsimp only at F h2 h3 ⊢
  refine .bd (Q := fun x => x.2.length ≤ 90 ∧ ∀ f ∈ x.2, Cat B f) (.lp (fun s => 0 ≤ s.2.2.2.2.2.2.2.2.2.2 ∧ s.2.2.2.2.2.2.2.2.2.2 ≤ 26 ∧ (s.1.length : Int) ≤ 60 + (26 - s.2.2.2.2.2.2.2.2.2.2) ∧ (∀ f ∈ s.1, Cat B f) ∧ Sm B ⟨s.2.1, s.2.2.1, s.2.2.2.1, s.2.2.2.2.1, s.2.2.2.2.2.1, s.2.2.2.2.2.2.1, s.2.2.2.2.2.2.2.1, s.2.2.2.2.2.2.2.2.1⟩ ∧ RdOk ⟨x1.b, s.2.2.2.2.2.2.2.2.2.1⟩ (1000 + 200 * (26 - s.2.2.2.2.2.2.2.2.2.2)))
    (fun s => s.2.2.2.2.2.2.2.2.2.2.toNat) ⟨by dsimp only; omega, by dsimp only; omega, by simp; omega, by simp, ⟨F.ok, rfl, rfl, fun _ => rfl⟩, h3.mono (by dsimp only; omega)⟩ fun s ⟨s1, s2, s3, s4, s5, s6⟩ => ?_) fun x7 h7 => .ret ⟨F, h7⟩
  obtain ⟨l, a1, a2, a3, a4, a5, a6, a7, a8, p, n⟩ := s
  dsimp only at s1 s2 s3 s4 s5 s6 ⊢
  refine .ite (fun c => ?_) fun _ => .ret ⟨by dsimp only; omega, s4⟩
  simp only [decide_eq_true_eq] at c
  refine .bd (Q := fun x => Sm B ⟨x.1, x.2.1, x.2.2.1, x.2.2.2.1, x.2.2.2.2.1, x.2.2.2.2.2.1, x.2.2.2.2.2.2.1, x.2.2.2.2.2.2.2.1⟩ ∧ RdOk ⟨x1.b, x.2.2.2.2.2.2.2.2.1⟩ (1000 + 200 * (26 - n) + 30) ∧ Cat B ⟨x.2.2.2.2.2.2.2.2.2.1, x.2.2.2.2.2.2.2.2.2.2.1, x.2.2.2.2.2.2.2.2.2.2.2.1, x.2.2.2.2.2.2.2.2.2.2.2.2.1, x.2.2.2.2.2.2.2.2.2.2.2.2.2⟩) ?_ fun x8 ⟨i1, i2, i3⟩ => ?_
  · refine .bd (pick_post s6 (by omega) (by omega)) fun x11 ⟨_, h11⟩ => .ite (fun _ => ?_) fun _ => ?_
    · rw [specTick_p, bd_val]
      exact .ret ⟨s5.tick, h11.mono (by omega), .inl rfl⟩
    · refine .bd (Q := fun _ => True) (.ite (fun _ => .ret trivial) fun _ => .ite (fun _ => .ret trivial) fun _ => .ret trivial) fun x13 _ => .ite (fun _ => ?_) fun _ => ?_
      · refine .bd (outFlow_post2 h11 (by omega) s5.ok) fun x16 ⟨k1, k2⟩ => ?_
        rw [specOut_p, bd_val]
        exact .ret ⟨s5.out _, k2.mono (by omega), .inr (.inl (by rw [← s5.ins]; exact k1))⟩
      · refine .bd (inFlow_post2 h11 (by omega) s5.ok (s5.fr F.fr)) fun x18 ⟨k1, k2⟩ => ?_
        exact .ret ⟨s5, k2.mono (by omega), .inr (.inr ⟨k1.flow, k1.to.trans s5.own, by rw [← s5.ins]; exact k1.from_, by rw [← s5.own]; exact k1.own⟩)⟩
  · obtain ⟨b1, b2, b3, b4, b5, b6, b7, b8, p', f1, f2, f3, f4, f5⟩ := x8
    dsimp only at i1 i2 i3 ⊢
    refine .gd (by simp; omega) (.bd (Q := fun x => (x.2.1.length : Int) ≤ 60 + (26 - n) + 1 ∧ (∀ f ∈ x.2.1, Cat B f) ∧ Sm B ⟨x.2.2.1, x.2.2.2.1, x.2.2.2.2.1, x.2.2.2.2.2.1, x.2.2.2.2.2.2.1, x.2.2.2.2.2.2.2.1, x.2.2.2.2.2.2.2.2.1, x.2.2.2.2.2.2.2.2.2.1⟩ ∧ RdOk ⟨x1.b, x.2.2.2.2.2.2.2.2.2.2⟩ (1000 + 200 * (26 - n) + 200))
      (.lp (fun s => (s.1.length : Int) ≤ 60 + (26 - n) + 1 ∧ (∀ f ∈ s.1, Cat B f) ∧ Sm B ⟨s.2.1, s.2.2.1, s.2.2.2.1, s.2.2.2.2.1, s.2.2.2.2.2.1, s.2.2.2.2.2.2.1, s.2.2.2.2.2.2.2.1, s.2.2.2.2.2.2.2.2.1⟩ ∧ RdOk ⟨x1.b, s.2.2.2.2.2.2.2.2.2⟩ (1000 + 200 * (26 - n) + 30 + s.1.length)) (fun s => 60 - s.1.length) ⟨by simp; omega, fun f hf => ?_, i1, i2.mono (by dsimp only; omega)⟩ fun s ⟨t1, t2, t3, t4⟩ => ?_) fun x22 ⟨t1, t2, t3, t4⟩ => .ret ⟨⟨by dsimp only; rw [wrap_i64 (by omega) (by omega)]; omega, by dsimp only; rw [wrap_i64 (by omega) (by omega)]; omega, by dsimp only; rw [wrap_i64 (by omega) (by omega)]; omega, t2, t3, t4.mono (by dsimp only; rw [wrap_i64 (by omega) (by omega)]; omega)⟩, by dsimp only; rw [wrap_i64 (by omega) (by omega)]; omega⟩)
    · rcases List.mem_append.1 hf with q | q
      · exact s4 f q
      · simp at q; rw [q]; exact i3
    · refine .bd (pick_post t4 (by omega) (by omega)) fun x23 ⟨_, h23⟩ => .ite (fun c => ?_) fun _ => .ret ⟨t1, t2, t3, h23.mono (by omega)⟩
      simp only [Bool.and_eq_true, decide_eq_true_eq] at c
      rw [specTick_p, bd_val]
      refine .gd (by simp; omega) (.ret ⟨⟨by simp; omega, fun f hf => ?_, t3.tick, h23.mono (by simp; omega)⟩, by simp; omega⟩)
      rcases List.mem_append.1 hf with q | q
      · exact t2 f q
      · simp at q; rw [q]; exact i3

end Go.Proofs.Ytaoeomoepefojab
