/-
  What some of the program's functions compute: their models, and that the functions compute these; no condition.
-/
import Derived.Test.YtfgmolljcgnafaaGreatTyz
import Derived.Test.YtfgmolljcgnafaaGreatTbz
import Derived.Test.YtfgmolljcgnafaaGreatAbz7
import Derived.Test.YtfgmolljcgnafaaGreatKz3
set_option linter.all false
namespace Go.Proofs.YtfgmolljcgnafaaGreat
open Go Go.Ab
set_option maxRecDepth 100000
set_option maxHeartbeats 40000000
noncomputable def laws_FnExactTreeCalm_m (a0:TreeWorld) (a1:Int) (a2:Int):Option (Bool) :=
 bd (laws_szTreeWorld_m a0 1048576) fun x1 =>
(if (decide (x1<0)) = true then
 some true
else
 bd (laws_toTreeWorld_m a0) fun x2 =>
 bd (spec_TreeCalm_m x2 a1 a2) fun x3 =>
 bd (laws_toTreeWorld_m a0) fun x4 =>
 bd (impl_TreeCalm_pu_o00_01_02_03_04_05_m x4 a1 a2) fun x5 =>
 bd (laws_eqTreeWorld_m x5 x3) fun x6 =>
(if (!x6) = true then
 some false
else
 bd (laws_toTreeWorld_m a0) fun x7 =>
 bd (laws_eqTreeWorld_m x4 x7) fun x8 =>
(if (!x8) = true then
 some false
else
 bd (laws_markTreeWorld_m x4 1) fun x9 =>
 gd (x9.2.Bridges.length = x4.Bridges.length) <|
 gd (x9.2.Links.length = x4.Links.length) <|
 gd (x9.2.Down.length = x4.Down.length) <|
 gd (x9.2.AtA.length = x4.AtA.length) <|
 gd (x9.2.AtB.length = x4.AtB.length) <|
 gd (x9.2.Radio.length = x4.Radio.length) <|
 bd (gcall ((decide (x9.1<0)) = false) (laws_eqTreeWorld_m x5 x3)) fun x10 =>
(if ((decide (x9.1<0)) || (!x10)) = true then
 some false
else
 bd (laws_markTreeWorld_m x5 1) fun x11 =>
 gd (x11.2.Bridges.length = x5.Bridges.length) <|
 gd (x11.2.Links.length = x5.Links.length) <|
 gd (x11.2.Down.length = x5.Down.length) <|
 gd (x11.2.AtA.length = x5.AtA.length) <|
 gd (x11.2.AtB.length = x5.AtB.length) <|
 gd (x11.2.Radio.length = x5.Radio.length) <|
 bd (laws_heldTreeWorld_m x11.2 1) fun x12 =>
(if (decide (x12<0)) = true then
 some false
else
(if (x12 != x11.1) = true then
 some false
else
 bd (laws_toTreeWorld_m a0) fun x13 =>
 bd (impl_TreeCalm_pu_o00_01_02_03_04_05_m x13 a1 a2) fun x14 =>
 bd (laws_eqTreeWorld_m x14 x3) fun x15 =>
(if (!x15) = true then
 some false
else
 bd (laws_heldTreeWorld_m x11.2 1) fun x16 =>
(if (decide (x16<0)) = true then
 some false
else
(if (x16 != x11.1) = true then
 some false
else
 some true)))))))))
theorem laws_FnExactTreeCalm_c {a0:TreeWorld} {a1:Int} {a2:Int} {r:Bool} (h:laws_FnExactTreeCalm_m a0 a1 a2 = some r):PureC Tryz.prog 3 [.agg [.d (slD TreeBridge.enc a0.Bridges),.d (slD TreeLink.enc a0.Links),.d (slD encInt a0.Down),.d (slD TreeSlot.enc a0.AtA),.d (slD TreeSlot.enc a0.AtB),.d (slD TreeWord.enc a0.Radio)],.d (.int .i64 a1),.d (.int .i64 a2)] (.d (.bool r)) []:=by
  refine pureC_x tOk (fn:=Tryz.f3) (c:=codeOf Tryz.f3) rfl rfl ?_;unfold laws_FnExactTreeCalm_m at h;(conv=>whnf);obtain ⟨x1,hx1,h⟩:=bd_some h;refine cC 0 (laws_szTreeWorld_c hx1) ?_;clear hx1;(conv=>whnf);refine seq_in tOk ?_;(conv=>whnf);refine andI h (fun _ h=>?_) (fun _ h=>?_)
  · (conv=>whnf);obtain rfl:=Option.some.inj h;exact lfP []
  · (conv=>whnf);obtain ⟨x2,hx2,h⟩:=bd_some h;refine cC 1000 (laws_toTreeWorld_c hx2) ?_;clear hx2;(conv=>whnf);obtain ⟨x3,hx3,h⟩:=bd_some h;refine cC 2000 (spec_TreeCalm_c hx3) ?_;clear hx3;(conv=>whnf);obtain ⟨x4,hx4,h⟩:=bd_some h;refine cC 3000 (laws_toTreeWorld_c hx4) ?_;clear hx4;(conv=>whnf);obtain ⟨x5,hx5,h⟩:=bd_some h;refine cC 4000 (impl_TreeCalm_pu_o00_01_02_03_04_05_c hx5) ?_;clear hx5;(conv=>whnf);refine seq_in tOk ?_;(conv=>whnf);obtain ⟨x6,hx6,h⟩:=bd_some h;refine cC 0 (laws_eqTreeWorld_c hx6) ?_;clear hx6;(conv=>whnf);refine andI h (fun _ h=>?_) (fun _ h=>?_)
    · (conv=>whnf);obtain rfl:=Option.some.inj h;exact lfP []
    · (conv=>whnf);refine seq_in tOk ?_;(conv=>whnf);obtain ⟨x7,hx7,h⟩:=bd_some h;obtain ⟨x8,hx8,h⟩:=bd_some h;refine draw_u tOk [.u 2 5000 (.agg [.osl 5001 0 x7.Bridges.length,.osl 5002 0 x7.Links.length,.osl 5003 0 x7.Down.length,.osl 5004 0 x7.AtA.length,.osl 5005 0 x7.AtB.length,.osl 5006 0 x7.Radio.length]) [⟨5001,81,6,x7.Bridges.length,rows TreeBridge.enc x7.Bridges⟩,⟨5002,89,3,x7.Links.length,rows TreeLink.enc x7.Links⟩,⟨5003,3,1,x7.Down.length,rows encInt x7.Down⟩,⟨5004,93,4,x7.AtA.length,rows TreeSlot.enc x7.AtA⟩,⟨5005,93,4,x7.AtB.length,rows TreeSlot.enc x7.AtB⟩,⟨5006,76,5,x7.Radio.length,rows TreeWord.enc x7.Radio⟩],.u 3 0 (.d (.bool x8)) []] 5 [] [0,0,2,7,15] [] ?_;(conv=>whnf);refine And.intro (callD_any (laws_toTreeWorld_c hx7) (by kernel_rfl)) ?_;(conv=>whnf);refine And.intro (callD_any (laws_eqTreeWorld_c hx8) (by kernel_rfl)) ?_;(conv=>whnf);refine And.intro (by kernel_rfl) ?_;(conv=>whnf);refine andI h (fun _ h=>?_) (fun _ h=>?_)
      · (conv=>whnf);obtain rfl:=Option.some.inj h;exact lfP []
      · (conv=>whnf);obtain ⟨x9,hx9,h⟩:=bd_some h;obtain ⟨g23,h⟩:=gd_some h;obtain ⟨g24,h⟩:=gd_some h;obtain ⟨g25,h⟩:=gd_some h;obtain ⟨g26,h⟩:=gd_some h;obtain ⟨g27,h⟩:=gd_some h;obtain ⟨g28,h⟩:=gd_some h;refine cE2 [(9000,8001),(9001,8002),(9002,8003),(9003,8004),(9004,8005),(9005,8006)] 0 (laws_markTreeWorld_c hx9) ?_;(conv=>whnf);refine seq_in tOk ?_;(conv=>whnf);obtain ⟨x10,hx10,h⟩:=bd_some h;refine cG (fun c0=>laws_eqTreeWorld_c (gcall_some hx10 c0)) ?_;(conv=>whnf);refine andI h (fun _ h=>?_) (fun _ h=>?_)
        · (conv=>whnf);obtain rfl:=Option.some.inj h;exact lfP []
        · (conv=>whnf);obtain ⟨x11,hx11,h⟩:=bd_some h;obtain ⟨g17,h⟩:=gd_some h;obtain ⟨g18,h⟩:=gd_some h;obtain ⟨g19,h⟩:=gd_some h;obtain ⟨g20,h⟩:=gd_some h;obtain ⟨g21,h⟩:=gd_some h;obtain ⟨g22,h⟩:=gd_some h;refine cE2 [(9000,9001),(9001,9002),(9002,9003),(9003,9004),(9004,9005),(9005,9006)] 0 (laws_markTreeWorld_c hx11) ?_;(conv=>whnf);obtain ⟨x12,hx12,h⟩:=bd_some h;refine callW (args1:=[.agg [.d (.sl x5.Bridges.length (rows TreeBridge.enc x11.2.Bridges)),.d (.sl x5.Links.length (rows TreeLink.enc x11.2.Links)),.d (.sl x5.Down.length (rows encInt x11.2.Down)),.d (.sl x5.AtA.length (rows TreeSlot.enc x11.2.AtA)),.d (.sl x5.AtB.length (rows TreeSlot.enc x11.2.AtB)),.d (.sl x5.Radio.length (rows TreeWord.enc x11.2.Radio))],.d (.int .i64 1)]) 0 (laws_heldTreeWorld_c hx12) (by kernel_rfl) argA (by kernel_rfl) ?_;(conv=>whnf);refine seq_in tOk ?_;(conv=>whnf);refine andI h (fun _ h=>?_) (fun _ h=>?_)
          · (conv=>whnf);obtain rfl:=Option.some.inj h;exact lfP []
          · (conv=>whnf);refine seq_in tOk ?_;(conv=>whnf);refine andI h (fun _ h=>?_) (fun _ h=>?_)
            · (conv=>whnf);obtain rfl:=Option.some.inj h;exact lfP []
            · (conv=>whnf);obtain ⟨x13,hx13,h⟩:=bd_some h;refine cC 6000 (laws_toTreeWorld_c hx13) ?_;clear hx13;(conv=>whnf);obtain ⟨x14,hx14,h⟩:=bd_some h;refine cC 7000 (impl_TreeCalm_pu_o00_01_02_03_04_05_c hx14) ?_;clear hx14;(conv=>whnf);refine seq_in tOk ?_;(conv=>whnf);obtain ⟨x15,hx15,h⟩:=bd_some h;refine cC 0 (laws_eqTreeWorld_c hx15) ?_;clear hx15;(conv=>whnf);refine andI h (fun _ h=>?_) (fun _ h=>?_)
              · (conv=>whnf);obtain rfl:=Option.some.inj h;exact lfP []
              · (conv=>whnf);obtain ⟨x16,hx16,h⟩:=bd_some h;refine callW (args1:=[.agg [.d (.sl x5.Bridges.length (rows TreeBridge.enc x11.2.Bridges)),.d (.sl x5.Links.length (rows TreeLink.enc x11.2.Links)),.d (.sl x5.Down.length (rows encInt x11.2.Down)),.d (.sl x5.AtA.length (rows TreeSlot.enc x11.2.AtA)),.d (.sl x5.AtB.length (rows TreeSlot.enc x11.2.AtB)),.d (.sl x5.Radio.length (rows TreeWord.enc x11.2.Radio))],.d (.int .i64 1)]) 0 (laws_heldTreeWorld_c hx16) (by kernel_rfl) argA (by kernel_rfl) ?_;(conv=>whnf);refine seq_in tOk ?_;(conv=>whnf);refine andI h (fun _ h=>?_) (fun _ h=>?_)
                · (conv=>whnf);obtain rfl:=Option.some.inj h;exact lfP []
                · (conv=>whnf);refine seq_in tOk ?_;(conv=>whnf);refine andI h (fun _ h=>?_) (fun _ h=>?_)
                  · (conv=>whnf);obtain rfl:=Option.some.inj h;exact lfP []
                  · (conv=>whnf);obtain rfl:=Option.some.inj h;exact lfP []
end Go.Proofs.YtfgmolljcgnafaaGreat
