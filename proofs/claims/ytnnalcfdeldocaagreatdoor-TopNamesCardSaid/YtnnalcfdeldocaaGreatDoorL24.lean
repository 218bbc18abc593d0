/- TopNames: the walk, whole. -/
import Derived.Test.YtnnalcfdeldocaaGreatDoorL20
import Derived.Test.YtnnalcfdeldocaaGreatDoorL21
import Derived.Test.YtnnalcfdeldocaaGreatDoorL22
import Derived.Test.YtnnalcfdeldocaaGreatDoorL23
namespace Go.Proofs.YtnnalcfdeldocaaGreatDoor.X
open Go
noncomputable def n0H : Hook := cutH 10 [.ptr 137 0, .bool true] 831 n0A (.tup []) 2646 n0B sortH
noncomputable def n1H : Hook := cutH 10 [.ptr 137 0, .bool true] 2646 n1A (.tup []) 4206 n1B n0H
noncomputable def n2H : Hook := cutH 10 [.ptr 137 0, .bool true] 4225 n2A (.tup []) 5382 n2B n1H
noncomputable def n3H : Hook := cutH 10 [.ptr 137 0, .bool true] 5421 n3A (.tup []) 6578 n3B n2H
noncomputable def n4H : Hook := cutH 10 [.ptr 137 0, .bool true] 6617 n4A (.tup []) 7774 n4B n3H
noncomputable def n5H : Hook := cutH 10 [.ptr 137 0, .bool false] 8432 n5A (.tup []) 9255 n5B n4H
noncomputable def n6H : Hook := cutH 10 [.ptr 137 0, .bool false] 9259 n6A (.tup []) 10007 n6B n5H
noncomputable def n7H : Hook := cutH 10 [.ptr 137 0, .bool false] 10011 n7A (.tup []) 10930 n7B n6H
theorem n_walk : isS ((evF Tryz.prog n7H 100000).call 4 [] st0 saysTrue) = true := by kernel_rfl
end Go.Proofs.YtnnalcfdeldocaaGreatDoor.X
