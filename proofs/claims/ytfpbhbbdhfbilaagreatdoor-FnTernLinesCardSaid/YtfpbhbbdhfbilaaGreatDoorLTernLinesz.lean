/-
  The row of FnTernLines is proved: for all arguments the law returns true; no condition.
-/
import Derived.Test.YtfpbhbbdhfbilaaGreatDoorKz6
import Derived.Test.YtfpbhbbdhfbilaaGreatDoorPz3
import Derived.Test.YtfpbhbbdhfbilaaGreatDoorArgz
import Derived.Test.YtfpbhbbdhfbilaaGreatDoorCmz
import Derived.Test.YtfpbhbbdhfbilaaGreatDoorFx1z
import Derived.Test.YtfpbhbbdhfbilaaGreatDoorFx2z
import Derived.Test.YtfpbhbbdhfbilaaGreatDoorFx3z
import Derived.Test.YtfpbhbbdhfbilaaGreatDoorFx4z
import Derived.Test.YtfpbhbbdhfbilaaGreatDoorFx5z
import Derived.Test.YtfpbhbbdhfbilaaGreatDoorFx6z
import Derived.Test.YtfpbhbbdhfbilaaGreatDoorFx7z
import Derived.Test.YtfpbhbbdhfbilaaGreatDoorFx8z
import Derived.Test.YtfpbhbbdhfbilaaGreatDoorFx9z
import Derived.Test.YtfpbhbbdhfbilaaGreatDoorAbz8
import Derived.Test.YtfpbhbbdhfbilaaGreatDoorTie
import Derived.Test.YtfpbhbbdhfbilaaGreatDoorCards
set_option linter.all false
namespace Go.Proofs.YtfpbhbbdhfbilaaGreatDoor
open Go Go.Ab Go.ChangeShapes Go.WideShapes Go.ChangeAt Go.RowKit
set_option maxRecDepth 100000
theorem Qjk:joinedFacts Tryz.prog 4 Tryz.f4 Rows.fnTernLinesSpec Rows.fnTernLinesRow=true:=by
 unfold joinedFacts;simp only[Bool.and_eq_true];refine⟨⟨⟨⟨⟨⟨⟨⟨⟨⟨⟨⟨⟨⟨⟨⟨⟨⟨⟨⟨⟨⟨⟨⟨⟨⟨⟨⟨⟨⟨⟨Qlu,Tryz.laidOut⟩,Qjd⟩,?_⟩,?_⟩,?_⟩,Qiv⟩,?_⟩,Qiw⟩,QgR⟩,QjV⟩,QjW⟩,QjX⟩,?_⟩,?_⟩,?_⟩,?_⟩,?_⟩,?_⟩,?_⟩,?_⟩,?_⟩,Qje⟩,?_⟩,Qix⟩,QjY⟩,Qjf⟩,Qjg⟩,?_⟩,?_⟩,?_⟩,Qjh⟩
 all_goals kernel_rfl
theorem Qj1 {W:World} (h:laidMetH Tryz.prog Rows.fnTernLinesRow.laid W):W.var? Tryz.prog Qeh=some Qyd:=by
 rw[MakeChecks.laidMetH_plain _ _ _ (by kernel_rfl)] at h;exact Qxz (by kernel_rfl) (g:=3) (by kernel_rfl) (by kernel_rfl) Tryz.underlying349 Tryz.underlying227 (by kernel_rfl) (by kernel_rfl) (.tail _ (.tail _ (.head _))) (by kernel_rfl) h
theorem Qj2 (W:World) (hx:laidMetH Tryz.prog Rows.fnTernLinesRow.laid W) (hs:W.ShapedOpen Tryz.prog):∀i nm g,varNames[i]? =some nm→Tryz.prog.globalNamed nm=some g→∃v,W.cell? ⟨g,0,none⟩=some v∧Qw6 i v:=by
 rw[MakeChecks.laidMetH_plain _ _ _ (by kernel_rfl)] at hx;intro i nm g hi hg;rcases i with _|_|_|i
 ·obtain rfl : varNames.getD 0 "" = nm := Option.some.inj hi;obtain rfl : 0 = g := Option.some.inj ((show Tryz.prog.globalNamed (varNames.getD 0 "") = some 0 by kernel_rfl).symm.trans hg);obtain ⟨m, h⟩ := Qpf (g := 0) (t := 3) (zero := #[.int .i64 0]) hs (by decide +kernel) (by kernel_rfl) rfl (by kernel_rfl) (by kernel_rfl) Tryz.underlying3;exact ⟨_, h, m, rfl⟩
 ·obtain rfl : varNames.getD 1 "" = nm := Option.some.inj hi;obtain rfl : 1 = g := Option.some.inj ((show Tryz.prog.globalNamed (varNames.getD 1 "") = some 1 by kernel_rfl).symm.trans hg);obtain ⟨te, pe, h⟩ := QwF (t := 229) (nm := varNames.getD 1 "") (by kernel_rfl) (by kernel_rfl) Tryz.underlying229 (.tail _ (.tail _ (.tail _ (.tail _ (.tail _ (.head _)))))) hx;exact ⟨_, h, .inr ⟨te, pe, rfl⟩⟩
 ·obtain rfl : varNames.getD 2 "" = nm := Option.some.inj hi;obtain rfl : 2 = g := Option.some.inj ((show Tryz.prog.globalNamed (varNames.getD 2 "") = some 2 by kernel_rfl).symm.trans hg);obtain ⟨te, pe, h⟩ := QwF (t := 229) (nm := varNames.getD 2 "") (by kernel_rfl) (by kernel_rfl) Tryz.underlying229 (.tail _ (.tail _ (.tail _ (.tail _ (.head _))))) hx;exact ⟨_, h, .inr ⟨te, pe, rfl⟩⟩
 ·simp[varNames] at hi
theorem fnTernLines_lifted (os:Os) (started:os.Started) (H:Type) (enc:TypeId×Value→H):
  ReturnsInHanded {} Tryz.checked os 4 .any (fun w args=>(Rows.fnTernLinesSpec.pre enc Tryz.prog Tryz.f4 Rows.fnTernLinesRow.domain false w args∧laidMetH Tryz.prog Rows.fnTernLinesRow.laid w)∧sizedMet enc Tryz.prog Tryz.f4 (OpenSpec.ofChange Rows.fnTernLinesSpec) false w args) (Rows.fnTernLinesSpec.post enc Tryz.prog Tryz.f4 false true false false):=by
 refine QtU (X:=(fun w _=>laidMetH Tryz.prog Rows.fnTernLinesRow.laid w)) (C:=Tryz.checked) (fn:=Tryz.f4) (fu:=6) (rt:=4) tOk (fun _ _ _ hh h=>h.of_heap hh) (fun W _ h=>Qj1 h) (fun W _ h hs=>Qj2 W h hs) Tryz.own started (by kernel_rfl) Tryz.func4
  (ChangeSpec.witness_shaped (enc:=enc) (C:=Tryz.checked) (os:=os) (X:=(fun w _=>laidMetH Tryz.prog Rows.fnTernLinesRow.laid w)) false (World.laidAll Tryz.prog os Rows.fnTernLinesRow.laid) #[.slice none 0 0] 8 (World.laidAll_os _ _ _)
   (World.shaped_of_ZipB (by kernel_rfl) (by kernel_rfl)) (by kernel_rfl) (by kernel_rfl) (by kernel_rfl)
   (by rw[MakeChecks.laidMetH_plain _ _ _ (by kernel_rfl)];exact laidMet_laidAll _ (by kernel_rfl) (by kernel_rfl)))
  Tryz.laidOut (by kernel_rfl) (by kernel_rfl) rfl rfl (by kernel_rfl) ?_ ?_
 ·intro ds hds;have hds:ds.length=1:=hds;obtain⟨a,rfl⟩:=QtB hds
  rfl
 ·have hp:Tryz.f4.params.toList=[22]:=by kernel_rfl
  rw[hp];intro dss h;obtain⟨x1,r,rfl,h1,h⟩:=QnK h;obtain rfl:=QoY h;obtain⟨n1,a1,_,b1,e1⟩:=Qve (enc:=QP) (ok:=QoX) (by rfl) (by rfl) (fun _ hd=>Qsh (by rfl) hd) h1;have f1:=And.intro b1 a1;exact PureC.le (vs:=[.d (slD QP n1)]) (And.intro (Qvg (by rfl) e1) (trivial)) (QhX (Qot f1))
theorem fnTernLines_holds:Rows.FnTernLinesSaid:=
 OpenClaim.holds_of_wide 4 Tryz.f4 rfl rfl rfl rfl rfl rfl rfl ⟨rfl,rfl,rfl,rfl,rfl⟩ rfl rfl rfl rfl rfl Qlv Tryz.func4 Qjk
  (of_decide_eq_true (by kernel_rfl)) (by unfold Func.isWrapper;first|(rw[if_pos (by decide+kernel)];kernel_rfl)|(rw[if_neg (by decide+kernel)];exact⟨rfl,rfl⟩))
  (fun os started H enc _=>fnTernLines_lifted os started H enc)
theorem fnTernLines_card:Rows.FnTernLinesCardSaid:=
 Claim7.holds_tied_plain_at .later [] [.data, .data, .data, .data, .sentinel, .sentinel, .pinned] true (true, "e98ba4c2138f7546ff9101fab8680302db18fd131ade7dc0232ed9b998d26969") true fnTernLines_holds (fun _ h => by cases h) Qj0 (fun _ h => by cases h) fnTernLines_row_tie rfl ⟨rfl, rfl⟩ Qji rfl
  (fun f fn hf hfn=>by
   obtain rfl:f=4:=Option.some.inj (QjZ.symm.trans hf)|>.symm;obtain rfl:fn=Tryz.f4:=(Option.some.inj (Tryz.func4.symm.trans hfn)).symm;exact⟨Qiy,fun j t ht=>by
    have hm:t∈[22]:=by simpa using Array.mem_of_getElem? (show(#[22]:Array Nat)[j]? =some t from ht)
    have hall:([22].all fun u=>!Tryz.prog.wantsStandIn u)=true:=by kernel_rfl
    exact(show Tryz.prog.wantsStandIn t=false by simpa using List.all_eq_true.1 hall t hm)⟩)
  Qjj
end Go.Proofs.YtfpbhbbdhfbilaaGreatDoor
