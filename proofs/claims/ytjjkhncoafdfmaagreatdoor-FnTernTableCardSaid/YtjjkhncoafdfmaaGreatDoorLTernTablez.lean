/-
  The row of FnTernTable is proved: for all arguments the law returns true; no condition.
-/
import Derived.Test.YtjjkhncoafdfmaaGreatDoorKz5
import Derived.Test.YtjjkhncoafdfmaaGreatDoorPz4
import Derived.Test.YtjjkhncoafdfmaaGreatDoorArgz
import Derived.Test.YtjjkhncoafdfmaaGreatDoorCmz
import Derived.Test.YtjjkhncoafdfmaaGreatDoorFx1z
import Derived.Test.YtjjkhncoafdfmaaGreatDoorFx2z
import Derived.Test.YtjjkhncoafdfmaaGreatDoorFx3z
import Derived.Test.YtjjkhncoafdfmaaGreatDoorFx4z
import Derived.Test.YtjjkhncoafdfmaaGreatDoorFx5z
import Derived.Test.YtjjkhncoafdfmaaGreatDoorFx6z
import Derived.Test.YtjjkhncoafdfmaaGreatDoorFx7z
import Derived.Test.YtjjkhncoafdfmaaGreatDoorFx8z
import Derived.Test.YtjjkhncoafdfmaaGreatDoorFx9z
import Derived.Test.YtjjkhncoafdfmaaGreatDoorAbz8
import Derived.Test.YtjjkhncoafdfmaaGreatDoorTie
import Derived.Test.YtjjkhncoafdfmaaGreatDoorCards
set_option linter.all false
namespace Go.Proofs.YtjjkhncoafdfmaaGreatDoor
open Go Go.Ab Go.ChangeShapes Go.WideShapes Go.ChangeAt Go.RowKit
set_option maxRecDepth 100000
theorem Qkl:joinedFacts Tryz.prog 3 Tryz.f3 Rows.fnTernTableSpec Rows.fnTernTableRow=true:=by
 unfold joinedFacts;simp only[Bool.and_eq_true];refine⟨⟨⟨⟨⟨⟨⟨⟨⟨⟨⟨⟨⟨⟨⟨⟨⟨⟨⟨⟨⟨⟨⟨⟨⟨⟨⟨⟨⟨⟨⟨QmE,Tryz.laidOut⟩,Qke⟩,?_⟩,?_⟩,?_⟩,Qjs⟩,?_⟩,Qjt⟩,Qhu⟩,QkR⟩,QkS⟩,QkT⟩,?_⟩,?_⟩,?_⟩,?_⟩,?_⟩,?_⟩,?_⟩,?_⟩,?_⟩,Qkf⟩,?_⟩,Qju⟩,QkU⟩,Qkg⟩,Qkh⟩,?_⟩,?_⟩,?_⟩,Qki⟩
 all_goals kernel_rfl
theorem QkX {W:World} (h:laidMetH Tryz.prog Rows.fnTernTableRow.laid W):W.var? Tryz.prog QeA=some QAp:=by
 rw[MakeChecks.laidMetH_plain _ _ _ (by kernel_rfl)] at h;exact Qzz (by kernel_rfl) (g:=3) (by kernel_rfl) (by kernel_rfl) Tryz.underlying285 Tryz.underlying179 (by kernel_rfl) (by kernel_rfl) (.tail _ (.tail _ (.head _))) (by kernel_rfl) h
theorem QkY (W:World) (hx:laidMetH Tryz.prog Rows.fnTernTableRow.laid W) (hs:W.ShapedOpen Tryz.prog):∀i nm g,varNames[i]? =some nm→Tryz.prog.globalNamed nm=some g→∃v,W.cell? ⟨g,0,none⟩=some v∧QyZ i v:=by
 rw[MakeChecks.laidMetH_plain _ _ _ (by kernel_rfl)] at hx;intro i nm g hi hg;rcases i with _|_|_|i
 ·obtain rfl : varNames.getD 0 "" = nm := Option.some.inj hi;obtain rfl : 0 = g := Option.some.inj ((show Tryz.prog.globalNamed (varNames.getD 0 "") = some 0 by kernel_rfl).symm.trans hg);obtain ⟨m, h⟩ := QpZ (g := 0) (t := 3) (zero := #[.int .i64 0]) hs (by decide +kernel) (by kernel_rfl) rfl (by kernel_rfl) (by kernel_rfl) Tryz.underlying3;exact ⟨_, h, m, rfl⟩
 ·obtain rfl : varNames.getD 1 "" = nm := Option.some.inj hi;obtain rfl : 1 = g := Option.some.inj ((show Tryz.prog.globalNamed (varNames.getD 1 "") = some 1 by kernel_rfl).symm.trans hg);obtain ⟨te, pe, h⟩ := Qys (t := 166) (nm := varNames.getD 1 "") (by kernel_rfl) (by kernel_rfl) Tryz.underlying166 (.tail _ (.tail _ (.tail _ (.tail _ (.tail _ (.head _)))))) hx;exact ⟨_, h, .inr ⟨te, pe, rfl⟩⟩
 ·obtain rfl : varNames.getD 2 "" = nm := Option.some.inj hi;obtain rfl : 2 = g := Option.some.inj ((show Tryz.prog.globalNamed (varNames.getD 2 "") = some 2 by kernel_rfl).symm.trans hg);obtain ⟨te, pe, h⟩ := Qys (t := 166) (nm := varNames.getD 2 "") (by kernel_rfl) (by kernel_rfl) Tryz.underlying166 (.tail _ (.tail _ (.tail _ (.tail _ (.head _))))) hx;exact ⟨_, h, .inr ⟨te, pe, rfl⟩⟩
 ·simp[varNames] at hi
theorem fnTernTable_lifted (os:Os) (started:os.Started) (H:Type) (enc:TypeId×Value→H):
  ReturnsInHanded {} Tryz.checked os 3 .any (fun w args=>(Rows.fnTernTableSpec.pre enc Tryz.prog Tryz.f3 Rows.fnTernTableRow.domain false w args∧laidMetH Tryz.prog Rows.fnTernTableRow.laid w)∧sizedMet enc Tryz.prog Tryz.f3 (OpenSpec.ofChange Rows.fnTernTableSpec) false w args) (Rows.fnTernTableSpec.post enc Tryz.prog Tryz.f3 false true false false):=by
 refine Qvd (X:=(fun w _=>laidMetH Tryz.prog Rows.fnTernTableRow.laid w)) (C:=Tryz.checked) (fn:=Tryz.f3) (fu:=6) (rt:=4) tOk (fun _ _ _ hh h=>h.of_heap hh) (fun W _ h=>QkX h) (fun W _ h hs=>QkY W h hs) Tryz.own started (by kernel_rfl) Tryz.func3
  (ChangeSpec.witness_shaped (enc:=enc) (C:=Tryz.checked) (os:=os) (X:=(fun w _=>laidMetH Tryz.prog Rows.fnTernTableRow.laid w)) false (World.laidAll Tryz.prog os Rows.fnTernTableRow.laid) #[.slice none 0 0] 8 (World.laidAll_os _ _ _)
   (World.shaped_of_ZipB (by kernel_rfl) (by kernel_rfl)) (by kernel_rfl) (by kernel_rfl) (by kernel_rfl)
   (by rw[MakeChecks.laidMetH_plain _ _ _ (by kernel_rfl)];exact laidMet_laidAll _ (by kernel_rfl) (by kernel_rfl)))
  Tryz.laidOut (by kernel_rfl) (by kernel_rfl) rfl rfl (by kernel_rfl) ?_ ?_
 ·intro ds hds;have hds:ds.length=1:=hds;obtain⟨a,rfl⟩:=QuR hds
  rfl
 ·have hp:Tryz.f3.params.toList=[22]:=by kernel_rfl
  rw[hp];intro dss h;obtain⟨x1,r,rfl,h1,h⟩:=Qoz h;obtain rfl:=QpL h;obtain⟨n1,a1,_,b1,e1⟩:=QwT (enc:=Qo) (ok:=Qox) (by rfl) (by rfl) (fun _ hd=>Qtt (by rfl) hd) h1;have f1:=And.intro b1 a1;exact PureC.le (vs:=[.d (slD Qo n1)]) (And.intro (QwV (by rfl) e1) (trivial)) (QiN (Qpd f1))
theorem fnTernTable_holds:Rows.FnTernTableSaid:=
 OpenClaim.holds_of_wide 3 Tryz.f3 rfl rfl rfl rfl rfl rfl rfl ⟨rfl,rfl,rfl,rfl,rfl⟩ rfl rfl rfl rfl rfl QmF Tryz.func3 Qkl
  (of_decide_eq_true (by kernel_rfl)) (by unfold Func.isWrapper;first|(rw[if_pos (by decide+kernel)];kernel_rfl)|(rw[if_neg (by decide+kernel)];exact⟨rfl,rfl⟩))
  (fun os started H enc _=>fnTernTable_lifted os started H enc)
theorem fnTernTable_card:Rows.FnTernTableCardSaid:=
 Claim7.holds_tied_plain_at .later [] [.data, .data, .data, .data, .sentinel, .sentinel, .pinned] true (true, "96ff43a1043456dde60c320c6100df2b1e5d11404120b6428d7d4dc9799a7e71") true fnTernTable_holds (fun _ h => by cases h) QkW (fun _ h => by cases h) fnTernTable_row_tie rfl ⟨rfl, rfl⟩ Qkj rfl
  (fun f fn hf hfn=>by
   obtain rfl:f=3:=Option.some.inj (QkV.symm.trans hf)|>.symm;obtain rfl:fn=Tryz.f3:=(Option.some.inj (Tryz.func3.symm.trans hfn)).symm;exact⟨Qjv,fun j t ht=>by
    have hm:t∈[22]:=by simpa using Array.mem_of_getElem? (show(#[22]:Array Nat)[j]? =some t from ht)
    have hall:([22].all fun u=>!Tryz.prog.wantsStandIn u)=true:=by kernel_rfl
    exact(show Tryz.prog.wantsStandIn t=false by simpa using List.all_eq_true.1 hall t hm)⟩)
  Qkk
end Go.Proofs.YtjjkhncoafdfmaaGreatDoor
