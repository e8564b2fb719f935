/-
  The row of FnConfFall is proved: for all arguments the law returns true; no condition.
-/
import Derived.Test.YtoknnjiangjccaaGreatDoorKz6
import Derived.Test.YtoknnjiangjccaaGreatDoorPz3
import Derived.Test.YtoknnjiangjccaaGreatDoorArgz
import Derived.Test.YtoknnjiangjccaaGreatDoorCmz
import Derived.Test.YtoknnjiangjccaaGreatDoorFx1z
import Derived.Test.YtoknnjiangjccaaGreatDoorFx2z
import Derived.Test.YtoknnjiangjccaaGreatDoorFx3z
import Derived.Test.YtoknnjiangjccaaGreatDoorFx4z
import Derived.Test.YtoknnjiangjccaaGreatDoorFx5z
import Derived.Test.YtoknnjiangjccaaGreatDoorFx6z
import Derived.Test.YtoknnjiangjccaaGreatDoorFx7z
import Derived.Test.YtoknnjiangjccaaGreatDoorFx8z
import Derived.Test.YtoknnjiangjccaaGreatDoorFx9z
import Derived.Test.YtoknnjiangjccaaGreatDoorAbz8
import Derived.Test.YtoknnjiangjccaaGreatDoorTie
import Derived.Test.YtoknnjiangjccaaGreatDoorCards
set_option linter.all false
namespace Go.Proofs.YtoknnjiangjccaaGreatDoor
open Go Go.Ab Go.ChangeShapes Go.WideShapes Go.ChangeAt Go.RowKit
set_option maxRecDepth 100000
theorem Qj8:joinedFacts Tryz.prog 4 Tryz.f4 Rows.fnConfFallSpec Rows.fnConfFallRow=true:=by
 unfold joinedFacts;simp only[Bool.and_eq_true];refine⟨⟨⟨⟨⟨⟨⟨⟨⟨⟨⟨⟨⟨⟨⟨⟨⟨⟨⟨⟨⟨⟨⟨⟨⟨⟨⟨⟨⟨⟨⟨Qmh,Tryz.laidOut⟩,Qj1⟩,?_⟩,?_⟩,?_⟩,Qjt⟩,?_⟩,Qju⟩,Qh1⟩,QlE⟩,QlF⟩,QlG⟩,?_⟩,?_⟩,?_⟩,?_⟩,?_⟩,?_⟩,?_⟩,?_⟩,?_⟩,Qj2⟩,?_⟩,Qjv⟩,QlH⟩,Qj3⟩,Qj4⟩,?_⟩,?_⟩,?_⟩,Qj5⟩
 all_goals kernel_rfl
theorem QlK {W:World} (h:laidMetH Tryz.prog Rows.fnConfFallRow.laid W):W.var? Tryz.prog Qej=some Qyu:=by
 rw[MakeChecks.laidMetH_plain _ _ _ (by kernel_rfl)] at h;exact QxB (by kernel_rfl) (g:=5) (by kernel_rfl) (by kernel_rfl) Tryz.underlying257 Tryz.underlying194 (by kernel_rfl) (by kernel_rfl) (.tail _ (.tail _ (.head _))) (by kernel_rfl) h
theorem QlL (W:World) (hx:laidMetH Tryz.prog Rows.fnConfFallRow.laid W) (hs:W.ShapedOpen Tryz.prog):∀i nm g,varNames[i]? =some nm→Tryz.prog.globalNamed nm=some g→∃v,W.cell? ⟨g,0,none⟩=some v∧Qw2 i v:=by
 rw[MakeChecks.laidMetH_plain _ _ _ (by kernel_rfl)] at hx;intro i nm g hi hg;rcases i with _|_|_|i
 ·obtain rfl : varNames.getD 0 "" = nm := Option.some.inj hi;obtain rfl : 0 = g := Option.some.inj ((show Tryz.prog.globalNamed (varNames.getD 0 "") = some 0 by kernel_rfl).symm.trans hg);obtain ⟨m, h⟩ := QoV (g := 0) (t := 3) (zero := #[.int .i64 0]) hs (by decide +kernel) (by kernel_rfl) rfl (by kernel_rfl) (by kernel_rfl) Tryz.underlying3;exact ⟨_, h, m, rfl⟩
 ·obtain rfl : varNames.getD 1 "" = nm := Option.some.inj hi;obtain rfl : 1 = g := Option.some.inj ((show Tryz.prog.globalNamed (varNames.getD 1 "") = some 1 by kernel_rfl).symm.trans hg);obtain ⟨te, pe, h⟩ := Qwt (t := 178) (nm := varNames.getD 1 "") (by kernel_rfl) (by kernel_rfl) Tryz.underlying178 (.tail _ (.tail _ (.tail _ (.tail _ (.tail _ (.head _)))))) hx;exact ⟨_, h, .inr ⟨te, pe, rfl⟩⟩
 ·obtain rfl : varNames.getD 2 "" = nm := Option.some.inj hi;obtain rfl : 2 = g := Option.some.inj ((show Tryz.prog.globalNamed (varNames.getD 2 "") = some 2 by kernel_rfl).symm.trans hg);obtain ⟨te, pe, h⟩ := Qwt (t := 178) (nm := varNames.getD 2 "") (by kernel_rfl) (by kernel_rfl) Tryz.underlying178 (.tail _ (.tail _ (.tail _ (.tail _ (.head _))))) hx;exact ⟨_, h, .inr ⟨te, pe, rfl⟩⟩
 ·simp[varNames] at hi
theorem fnConfFall_lifted (os:Os) (started:os.Started) (H:Type) (enc:TypeId×Value→H):
  ReturnsInHanded {} Tryz.checked os 4 .any (fun w args=>(Rows.fnConfFallSpec.pre enc Tryz.prog Tryz.f4 Rows.fnConfFallRow.domain false w args∧laidMetH Tryz.prog Rows.fnConfFallRow.laid w)∧sizedMet enc Tryz.prog Tryz.f4 (OpenSpec.ofChange Rows.fnConfFallSpec) false w args) (Rows.fnConfFallSpec.post enc Tryz.prog Tryz.f4 false true false false):=by
 refine QtB (X:=(fun w _=>laidMetH Tryz.prog Rows.fnConfFallRow.laid w)) (C:=Tryz.checked) (fn:=Tryz.f4) (fu:=6) (rt:=4) tOk (fun _ _ _ hh h=>h.of_heap hh) (fun W _ h=>QlK h) (fun W _ h hs=>QlL W h hs) Tryz.own started (by kernel_rfl) Tryz.func4
  (ChangeSpec.witness_shaped (enc:=enc) (C:=Tryz.checked) (os:=os) (X:=(fun w _=>laidMetH Tryz.prog Rows.fnConfFallRow.laid w)) false (World.laidAll Tryz.prog os Rows.fnConfFallRow.laid) #[.slice none 0 0,.slice none 0 0] 8 (World.laidAll_os _ _ _)
   (World.shaped_of_ZipB (by kernel_rfl) (by kernel_rfl)) (by kernel_rfl) (by kernel_rfl) (by kernel_rfl)
   (by rw[MakeChecks.laidMetH_plain _ _ _ (by kernel_rfl)];exact laidMet_laidAll _ (by kernel_rfl) (by kernel_rfl)))
  Tryz.laidOut (by kernel_rfl) (by kernel_rfl) rfl rfl (by kernel_rfl) ?_ ?_
 ·intro ds hds;have hds:ds.length=2:=hds;obtain⟨a,b,rfl⟩:=Qxf hds
  rfl
 ·have hp:Tryz.f4.params.toList=[22,22]:=by kernel_rfl
  rw[hp];intro dss h;obtain⟨x1,r,rfl,h1,h⟩:=Qiq h;obtain⟨x2,r,rfl,h2,h⟩:=Qiq h;obtain rfl:=QoE h;obtain⟨n1,a1,_,b1,e1⟩:=QqK (enc:=Qq) (ok:=QnE) (by rfl) (by rfl) (fun _ hd=>QmK (by rfl) hd) h1;have f1:=And.intro b1 a1;obtain⟨n2,a2,_,b2,e2⟩:=QqK (enc:=Qq) (ok:=QnE) (by rfl) (by rfl) (fun _ hd=>QmK (by rfl) hd) h2;have f2:=And.intro b2 a2;exact PureC.le (vs:=[.d (slD Qq n1),.d (slD Qq n2)]) (And.intro (QqL (by rfl) e1) (And.intro (QqL (by rfl) e2) (trivial))) (QiW (Qpl f1 f2))
theorem fnConfFall_holds:Rows.FnConfFallSaid:=
 OpenClaim.holds_of_wide 4 Tryz.f4 rfl rfl rfl rfl rfl rfl rfl ⟨rfl,rfl,rfl,rfl,rfl⟩ rfl rfl rfl rfl rfl Qmi Tryz.func4 Qj8
  (of_decide_eq_true (by kernel_rfl)) (by unfold Func.isWrapper;first|(rw[if_pos (by decide+kernel)];kernel_rfl)|(rw[if_neg (by decide+kernel)];exact⟨rfl,rfl⟩))
  (fun os started H enc _=>fnConfFall_lifted os started H enc)
theorem fnConfFall_card:Rows.FnConfFallCardSaid:=
 Claim7.holds_tied_plain_at .later [] [.data, .data, .data, .data, .sentinel, .sentinel, .pinned] true (true, "a6ee764e5855492814ba278b888e76b6bb5c27f0c1bb2e9e06a81fc1e13a197e") true fnConfFall_holds (fun _ h => by cases h) QlJ (fun _ h => by cases h) fnConfFall_row_tie rfl ⟨rfl, rfl⟩ Qj6 rfl
  (fun f fn hf hfn=>by
   obtain rfl:f=4:=Option.some.inj (QlI.symm.trans hf)|>.symm;obtain rfl:fn=Tryz.f4:=(Option.some.inj (Tryz.func4.symm.trans hfn)).symm;exact⟨Qjw,fun j t ht=>by
    have hm:t∈[22,22]:=by simpa using Array.mem_of_getElem? (show(#[22,22]:Array Nat)[j]? =some t from ht)
    have hall:([22,22].all fun u=>!Tryz.prog.wantsStandIn u)=true:=by kernel_rfl
    exact(show Tryz.prog.wantsStandIn t=false by simpa using List.all_eq_true.1 hall t hm)⟩)
  Qj7
end Go.Proofs.YtoknnjiangjccaaGreatDoor
