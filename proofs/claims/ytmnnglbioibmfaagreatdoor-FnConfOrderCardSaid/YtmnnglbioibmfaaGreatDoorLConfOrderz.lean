/-
  The row of FnConfOrder is proved: for all arguments the law returns true; no condition.
-/
import Derived.Test.YtmnnglbioibmfaaGreatDoorKz5
import Derived.Test.YtmnnglbioibmfaaGreatDoorPz3
import Derived.Test.YtmnnglbioibmfaaGreatDoorArgz
import Derived.Test.YtmnnglbioibmfaaGreatDoorCmz
import Derived.Test.YtmnnglbioibmfaaGreatDoorFx1z
import Derived.Test.YtmnnglbioibmfaaGreatDoorFx2z
import Derived.Test.YtmnnglbioibmfaaGreatDoorFx3z
import Derived.Test.YtmnnglbioibmfaaGreatDoorFx4z
import Derived.Test.YtmnnglbioibmfaaGreatDoorFx5z
import Derived.Test.YtmnnglbioibmfaaGreatDoorFx6z
import Derived.Test.YtmnnglbioibmfaaGreatDoorFx7z
import Derived.Test.YtmnnglbioibmfaaGreatDoorFx8z
import Derived.Test.YtmnnglbioibmfaaGreatDoorFx9z
import Derived.Test.YtmnnglbioibmfaaGreatDoorAbz8
import Derived.Test.YtmnnglbioibmfaaGreatDoorTie
import Derived.Test.YtmnnglbioibmfaaGreatDoorCards
set_option linter.all false
namespace Go.Proofs.YtmnnglbioibmfaaGreatDoor
open Go Go.Ab Go.ChangeShapes Go.WideShapes Go.ChangeAt Go.RowKit
set_option maxRecDepth 100000
theorem Qiu:joinedFacts Tryz.prog 3 Tryz.f3 Rows.fnConfOrderSpec Rows.fnConfOrderRow=true:=by
 unfold joinedFacts;simp only[Bool.and_eq_true];refine⟨⟨⟨⟨⟨⟨⟨⟨⟨⟨⟨⟨⟨⟨⟨⟨⟨⟨⟨⟨⟨⟨⟨⟨⟨⟨⟨⟨⟨⟨⟨QkC,Tryz.laidOut⟩,Qin⟩,?_⟩,?_⟩,?_⟩,QhE⟩,?_⟩,QhF⟩,Qf7⟩,QiX⟩,QiY⟩,QiZ⟩,?_⟩,?_⟩,?_⟩,?_⟩,?_⟩,?_⟩,?_⟩,?_⟩,?_⟩,Qio⟩,?_⟩,QhG⟩,Qi0⟩,Qip⟩,Qiq⟩,?_⟩,?_⟩,?_⟩,Qir⟩
 all_goals kernel_rfl
theorem Qi3 {W:World} (h:laidMetH Tryz.prog Rows.fnConfOrderRow.laid W):W.var? Tryz.prog QdG=some Qwp:=by
 rw[MakeChecks.laidMetH_plain _ _ _ (by kernel_rfl)] at h;exact QvM (by kernel_rfl) (g:=5) (by kernel_rfl) (by kernel_rfl) Tryz.underlying232 Tryz.underlying171 (by kernel_rfl) (by kernel_rfl) (.tail _ (.tail _ (.head _))) (by kernel_rfl) h
theorem Qi4 (W:World) (hx:laidMetH Tryz.prog Rows.fnConfOrderRow.laid W) (hs:W.ShapedOpen Tryz.prog):∀i nm g,varNames[i]? =some nm→Tryz.prog.globalNamed nm=some g→∃v,W.cell? ⟨g,0,none⟩=some v∧Qvg i v:=by
 rw[MakeChecks.laidMetH_plain _ _ _ (by kernel_rfl)] at hx;intro i nm g hi hg;rcases i with _|_|_|i
 ·obtain rfl : varNames.getD 0 "" = nm := Option.some.inj hi;obtain rfl : 0 = g := Option.some.inj ((show Tryz.prog.globalNamed (varNames.getD 0 "") = some 0 by kernel_rfl).symm.trans hg);obtain ⟨m, h⟩ := QnG (g := 0) (t := 3) (zero := #[.int .i64 0]) hs (by decide +kernel) (by kernel_rfl) rfl (by kernel_rfl) (by kernel_rfl) Tryz.underlying3;exact ⟨_, h, m, rfl⟩
 ·obtain rfl : varNames.getD 1 "" = nm := Option.some.inj hi;obtain rfl : 1 = g := Option.some.inj ((show Tryz.prog.globalNamed (varNames.getD 1 "") = some 1 by kernel_rfl).symm.trans hg);obtain ⟨te, pe, h⟩ := QuN (t := 155) (nm := varNames.getD 1 "") (by kernel_rfl) (by kernel_rfl) Tryz.underlying155 (.tail _ (.tail _ (.tail _ (.tail _ (.tail _ (.head _)))))) hx;exact ⟨_, h, .inr ⟨te, pe, rfl⟩⟩
 ·obtain rfl : varNames.getD 2 "" = nm := Option.some.inj hi;obtain rfl : 2 = g := Option.some.inj ((show Tryz.prog.globalNamed (varNames.getD 2 "") = some 2 by kernel_rfl).symm.trans hg);obtain ⟨te, pe, h⟩ := QuN (t := 155) (nm := varNames.getD 2 "") (by kernel_rfl) (by kernel_rfl) Tryz.underlying155 (.tail _ (.tail _ (.tail _ (.tail _ (.head _))))) hx;exact ⟨_, h, .inr ⟨te, pe, rfl⟩⟩
 ·simp[varNames] at hi
theorem fnConfOrder_lifted (os:Os) (started:os.Started) (H:Type) (enc:TypeId×Value→H):
  ReturnsInHanded {} Tryz.checked os 3 .any (fun w args=>(Rows.fnConfOrderSpec.pre enc Tryz.prog Tryz.f3 Rows.fnConfOrderRow.domain false w args∧laidMetH Tryz.prog Rows.fnConfOrderRow.laid w)∧sizedMet enc Tryz.prog Tryz.f3 (OpenSpec.ofChange Rows.fnConfOrderSpec) false w args) (Rows.fnConfOrderSpec.post enc Tryz.prog Tryz.f3 false true false false):=by
 refine Qsf (X:=(fun w _=>laidMetH Tryz.prog Rows.fnConfOrderRow.laid w)) (C:=Tryz.checked) (fn:=Tryz.f3) (fu:=6) (rt:=4) tOk (fun _ _ _ hh h=>h.of_heap hh) (fun W _ h=>Qi3 h) (fun W _ h hs=>Qi4 W h hs) Tryz.own started (by kernel_rfl) Tryz.func3
  (ChangeSpec.witness_shaped (enc:=enc) (C:=Tryz.checked) (os:=os) (X:=(fun w _=>laidMetH Tryz.prog Rows.fnConfOrderRow.laid w)) false (World.laidAll Tryz.prog os Rows.fnConfOrderRow.laid) #[.slice none 0 0] 8 (World.laidAll_os _ _ _)
   (World.shaped_of_ZipB (by kernel_rfl) (by kernel_rfl)) (by kernel_rfl) (by kernel_rfl) (by kernel_rfl)
   (by rw[MakeChecks.laidMetH_plain _ _ _ (by kernel_rfl)];exact laidMet_laidAll _ (by kernel_rfl) (by kernel_rfl)))
  Tryz.laidOut (by kernel_rfl) (by kernel_rfl) rfl rfl (by kernel_rfl) ?_ ?_
 ·intro ds hds;have hds:ds.length=1:=hds;obtain⟨a,rfl⟩:=QrU hds
  rfl
 ·have hp:Tryz.f3.params.toList=[22]:=by kernel_rfl
  rw[hp];intro dss h;obtain⟨x1,r,rfl,h1,h⟩:=Qmr h;obtain rfl:=Qnp h;obtain⟨n1,a1,_,b1,e1⟩:=Qty (enc:=Q3) (ok:=Qoy) (by rfl) (by rfl) (fun _ hd=>QqA (by rfl) hd) h1;have f1:=And.intro b1 a1;exact PureC.le (vs:=[.d (slD Q3 n1)]) (And.intro (QtA (by rfl) e1) (trivial)) (Qhc (QmW f1))
theorem fnConfOrder_holds:Rows.FnConfOrderSaid:=
 OpenClaim.holds_of_wide 3 Tryz.f3 rfl rfl rfl rfl rfl rfl rfl ⟨rfl,rfl,rfl,rfl,rfl⟩ rfl rfl rfl rfl rfl QkD Tryz.func3 Qiu
  (of_decide_eq_true (by kernel_rfl)) (by unfold Func.isWrapper;first|(rw[if_pos (by decide+kernel)];kernel_rfl)|(rw[if_neg (by decide+kernel)];exact⟨rfl,rfl⟩))
  (fun os started H enc _=>fnConfOrder_lifted os started H enc)
theorem fnConfOrder_card:Rows.FnConfOrderCardSaid:=
 Claim7.holds_tied_plain_at .later [] [.data, .data, .data, .data, .sentinel, .sentinel, .pinned] true (true, "daf361df1f1ffb3fee686faa60b1c2dcb4bc156c41630ad8438d93345dfe6e43") true fnConfOrder_holds (fun _ h => by cases h) Qi2 (fun _ h => by cases h) fnConfOrder_row_tie rfl ⟨rfl, rfl⟩ Qis rfl
  (fun f fn hf hfn=>by
   obtain rfl:f=3:=Option.some.inj (Qi1.symm.trans hf)|>.symm;obtain rfl:fn=Tryz.f3:=(Option.some.inj (Tryz.func3.symm.trans hfn)).symm;exact⟨QhH,fun j t ht=>by
    have hm:t∈[22]:=by simpa using Array.mem_of_getElem? (show(#[22]:Array Nat)[j]? =some t from ht)
    have hall:([22].all fun u=>!Tryz.prog.wantsStandIn u)=true:=by kernel_rfl
    exact(show Tryz.prog.wantsStandIn t=false by simpa using List.all_eq_true.1 hall t hm)⟩)
  Qit
end Go.Proofs.YtmnnglbioibmfaaGreatDoor
