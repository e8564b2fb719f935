/-
  The row of FnConfTrial is proved: for all arguments the law returns true; no condition.
-/
import Derived.Test.YtoknnjiangjccaaGreatDoorKz6
import Derived.Test.YtoknnjiangjccaaGreatDoorPz4
import Derived.Test.YtoknnjiangjccaaGreatDoorArgz
import Derived.Test.YtoknnjiangjccaaGreatDoorCmz
import Derived.Test.YtoknnjiangjccaaGreatDoorFx1z
import Derived.Test.YtoknnjiangjccaaGreatDoorFx2z
import Derived.Test.YtoknnjiangjccaaGreatDoorFx3z
import Derived.Test.YtoknnjiangjccaaGreatDoorFx4z
import Derived.Test.YtoknnjiangjccaaGreatDoorFx5z
import Derived.Test.YtoknnjiangjccaaGreatDoorFx6z
import Derived.Test.YtoknnjiangjccaaGreatDoorFx7z
import Derived.Test.YtoknnjiangjccaaGreatDoorFx8z
import Derived.Test.YtoknnjiangjccaaGreatDoorFx9z
import Derived.Test.YtoknnjiangjccaaGreatDoorAbz8
import Derived.Test.YtoknnjiangjccaaGreatDoorTie
import Derived.Test.YtoknnjiangjccaaGreatDoorCards
set_option linter.all false
namespace Go.Proofs.YtoknnjiangjccaaGreatDoor
open Go Go.Ab Go.ChangeShapes Go.WideShapes Go.ChangeAt Go.RowKit
set_option maxRecDepth 100000
theorem Qjy:joinedFacts Tryz.prog 5 Tryz.f5 Rows.fnConfTrialSpec Rows.fnConfTrialRow=true:=by
 unfold joinedFacts;simp only[Bool.and_eq_true];refine⟨⟨⟨⟨⟨⟨⟨⟨⟨⟨⟨⟨⟨⟨⟨⟨⟨⟨⟨⟨⟨⟨⟨⟨⟨⟨⟨⟨⟨⟨⟨QlJ,Tryz.laidOut⟩,Qjr⟩,?_⟩,?_⟩,?_⟩,QiI⟩,?_⟩,QiJ⟩,Qg1⟩,Qj3⟩,Qj4⟩,Qj5⟩,?_⟩,?_⟩,?_⟩,?_⟩,?_⟩,?_⟩,?_⟩,?_⟩,?_⟩,Qjs⟩,?_⟩,QiK⟩,Qj6⟩,Qjt⟩,Qju⟩,?_⟩,?_⟩,?_⟩,Qjv⟩
 all_goals kernel_rfl
theorem Qj9 {W:World} (h:laidMetH Tryz.prog Rows.fnConfTrialRow.laid W):W.var? Tryz.prog Qek=some QyE:=by
 rw[MakeChecks.laidMetH_plain _ _ _ (by kernel_rfl)] at h;exact QxE (by kernel_rfl) (g:=5) (by kernel_rfl) (by kernel_rfl) Tryz.underlying257 Tryz.underlying194 (by kernel_rfl) (by kernel_rfl) (.tail _ (.tail _ (.head _))) (by kernel_rfl) h
theorem Qka (W:World) (hx:laidMetH Tryz.prog Rows.fnConfTrialRow.laid W) (hs:W.ShapedOpen Tryz.prog):∀i nm g,varNames[i]? =some nm→Tryz.prog.globalNamed nm=some g→∃v,W.cell? ⟨g,0,none⟩=some v∧Qw3 i v:=by
 rw[MakeChecks.laidMetH_plain _ _ _ (by kernel_rfl)] at hx;intro i nm g hi hg;rcases i with _|_|_|i
 ·obtain rfl : varNames.getD 0 "" = nm := Option.some.inj hi;obtain rfl : 0 = g := Option.some.inj ((show Tryz.prog.globalNamed (varNames.getD 0 "") = some 0 by kernel_rfl).symm.trans hg);obtain ⟨m, h⟩ := Qo2 (g := 0) (t := 3) (zero := #[.int .i64 0]) hs (by decide +kernel) (by kernel_rfl) rfl (by kernel_rfl) (by kernel_rfl) Tryz.underlying3;exact ⟨_, h, m, rfl⟩
 ·obtain rfl : varNames.getD 1 "" = nm := Option.some.inj hi;obtain rfl : 1 = g := Option.some.inj ((show Tryz.prog.globalNamed (varNames.getD 1 "") = some 1 by kernel_rfl).symm.trans hg);obtain ⟨te, pe, h⟩ := Qwy (t := 178) (nm := varNames.getD 1 "") (by kernel_rfl) (by kernel_rfl) Tryz.underlying178 (.tail _ (.tail _ (.tail _ (.tail _ (.tail _ (.head _)))))) hx;exact ⟨_, h, .inr ⟨te, pe, rfl⟩⟩
 ·obtain rfl : varNames.getD 2 "" = nm := Option.some.inj hi;obtain rfl : 2 = g := Option.some.inj ((show Tryz.prog.globalNamed (varNames.getD 2 "") = some 2 by kernel_rfl).symm.trans hg);obtain ⟨te, pe, h⟩ := Qwy (t := 178) (nm := varNames.getD 2 "") (by kernel_rfl) (by kernel_rfl) Tryz.underlying178 (.tail _ (.tail _ (.tail _ (.tail _ (.head _))))) hx;exact ⟨_, h, .inr ⟨te, pe, rfl⟩⟩
 ·simp[varNames] at hi
theorem fnConfTrial_lifted (os:Os) (started:os.Started) (H:Type) (enc:TypeId×Value→H):
  ReturnsInHanded {} Tryz.checked os 5 .any (fun w args=>(Rows.fnConfTrialSpec.pre enc Tryz.prog Tryz.f5 Rows.fnConfTrialRow.domain false w args∧laidMetH Tryz.prog Rows.fnConfTrialRow.laid w)∧sizedMet enc Tryz.prog Tryz.f5 (OpenSpec.ofChange Rows.fnConfTrialSpec) false w args) (Rows.fnConfTrialSpec.post enc Tryz.prog Tryz.f5 false true false false):=by
 refine QtF (X:=(fun w _=>laidMetH Tryz.prog Rows.fnConfTrialRow.laid w)) (C:=Tryz.checked) (fn:=Tryz.f5) (fu:=6) (rt:=4) tOk (fun _ _ _ hh h=>h.of_heap hh) (fun W _ h=>Qj9 h) (fun W _ h hs=>Qka W h hs) Tryz.own started (by kernel_rfl) Tryz.func5
  (ChangeSpec.witness_shaped (enc:=enc) (C:=Tryz.checked) (os:=os) (X:=(fun w _=>laidMetH Tryz.prog Rows.fnConfTrialRow.laid w)) false (World.laidAll Tryz.prog os Rows.fnConfTrialRow.laid) #[.slice none 0 0,.slice none 0 0] 8 (World.laidAll_os _ _ _)
   (World.shaped_of_ZipB (by kernel_rfl) (by kernel_rfl)) (by kernel_rfl) (by kernel_rfl) (by kernel_rfl)
   (by rw[MakeChecks.laidMetH_plain _ _ _ (by kernel_rfl)];exact laidMet_laidAll _ (by kernel_rfl) (by kernel_rfl)))
  Tryz.laidOut (by kernel_rfl) (by kernel_rfl) rfl rfl (by kernel_rfl) ?_ ?_
 ·intro ds hds;have hds:ds.length=2:=hds;obtain⟨a,b,rfl⟩:=Qxh hds
  rfl
 ·have hp:Tryz.f5.params.toList=[22,22]:=by kernel_rfl
  rw[hp];intro dss h;obtain⟨x1,r,rfl,h1,h⟩:=Qiq h;obtain⟨x2,r,rfl,h2,h⟩:=Qiq h;obtain rfl:=QoL h;obtain⟨n1,a1,_,b1,e1⟩:=QqV (enc:=Qt) (ok:=Qmc) (by rfl) (by rfl) (fun _ hd=>QmI (by rfl) hd) h1;have f1:=And.intro b1 a1;obtain⟨n2,a2,_,b2,e2⟩:=QqV (enc:=Qt) (ok:=Qmc) (by rfl) (by rfl) (fun _ hd=>QmI (by rfl) hd) h2;have f2:=And.intro b2 a2;exact PureC.le (vs:=[.d (slD Qt n1),.d (slD Qt n2)]) (And.intro (QqW (by rfl) e1) (And.intro (QqW (by rfl) e2) (trivial))) (Qib (Qog f1 f2))
theorem fnConfTrial_holds:Rows.FnConfTrialSaid:=
 OpenClaim.holds_of_wide 5 Tryz.f5 rfl rfl rfl rfl rfl rfl rfl ⟨rfl,rfl,rfl,rfl,rfl⟩ rfl rfl rfl rfl rfl QlK Tryz.func5 Qjy
  (of_decide_eq_true (by kernel_rfl)) (by unfold Func.isWrapper;first|(rw[if_pos (by decide+kernel)];kernel_rfl)|(rw[if_neg (by decide+kernel)];exact⟨rfl,rfl⟩))
  (fun os started H enc _=>fnConfTrial_lifted os started H enc)
theorem fnConfTrial_card:Rows.FnConfTrialCardSaid:=
 Claim7.holds_tied_plain_at .later [] [.data, .data, .data, .data, .sentinel, .sentinel, .pinned] true (true, "a6ee764e5855492814ba278b888e76b6bb5c27f0c1bb2e9e06a81fc1e13a197e") true fnConfTrial_holds (fun _ h => by cases h) Qj8 (fun _ h => by cases h) fnConfTrial_row_tie rfl ⟨rfl, rfl⟩ Qjw rfl
  (fun f fn hf hfn=>by
   obtain rfl:f=5:=Option.some.inj (Qj7.symm.trans hf)|>.symm;obtain rfl:fn=Tryz.f5:=(Option.some.inj (Tryz.func5.symm.trans hfn)).symm;exact⟨QiL,fun j t ht=>by
    have hm:t∈[22,22]:=by simpa using Array.mem_of_getElem? (show(#[22,22]:Array Nat)[j]? =some t from ht)
    have hall:([22,22].all fun u=>!Tryz.prog.wantsStandIn u)=true:=by kernel_rfl
    exact(show Tryz.prog.wantsStandIn t=false by simpa using List.all_eq_true.1 hall t hm)⟩)
  Qjx
end Go.Proofs.YtoknnjiangjccaaGreatDoor
