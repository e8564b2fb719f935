/-
  What some of the program's functions compute: their models, and that the functions compute these; no condition.
-/
import Derived.Test.YtjgjdobkahdgfaaDoorTyz
import Derived.Test.YtjgjdobkahdgfaaDoorTbz
import Derived.Test.YtjgjdobkahdgfaaDoorLay4z
import Derived.Test.YtjgjdobkahdgfaaDoorAbz8
import Derived.Test.YtjgjdobkahdgfaaDoorKz2
set_option linter.all false
namespace Go.Proofs.YtjgjdobkahdgfaaDoor
open Go Go.Ab
set_option maxRecDepth 100000
set_option maxHeartbeats 40000000
noncomputable def laws_toNatDoor_m (a0 : NatDoor) : Option (NatDoor) :=
 some a0

theorem laws_toNatDoor_c {a0 : NatDoor} {r : NatDoor} (h : laws_toNatDoor_m a0 = some r) : PureC Tryd.prog 33 [.agg [.d (.int .i64 a0.Kind), .d (.int .i64 a0.Outer), .d (.int .i64 a0.Inner), .d (.int .i64 a0.InnerPort)]] (.agg [.d (.int .i64 r.Kind), .d (.int .i64 r.Outer), .d (.int .i64 r.Inner), .d (.int .i64 r.InnerPort)]) [] := by
  refine pureC_x tOk (fn := Tryd.f33) (c := codeOf Tryd.f33) rfl rfl ?_
  unfold laws_toNatDoor_m at h
  conv => whnf
  obtain rfl := Option.some.inj h
  exact lfP []

noncomputable def laws_toNatEntry_m (a0 : NatEntry) : Option (NatEntry) :=
 some a0

theorem laws_toNatEntry_c {a0 : NatEntry} {r : NatEntry} (h : laws_toNatEntry_m a0 = some r) : PureC Tryd.prog 34 [.agg [.d (.int .i64 a0.Kind), .d (.int .i64 a0.Peer), .d (.int .i64 a0.PeerPort), .d (.int .i64 a0.Outer), .d (.int .i64 a0.Inner), .d (.int .i64 a0.InnerPort), .d (.int .i64 a0.Last)]] (.agg [.d (.int .i64 r.Kind), .d (.int .i64 r.Peer), .d (.int .i64 r.PeerPort), .d (.int .i64 r.Outer), .d (.int .i64 r.Inner), .d (.int .i64 r.InnerPort), .d (.int .i64 r.Last)]) [] := by
  refine pureC_x tOk (fn := Tryd.f34) (c := codeOf Tryd.f34) rfl rfl ?_
  unfold laws_toNatEntry_m at h
  conv => whnf
  obtain rfl := Option.some.inj h
  exact lfP []

end Go.Proofs.YtjgjdobkahdgfaaDoor
