/- The tie, fact by fact: joined. -/
import Derived.Test.YtnnalcfdeldocaaGreatDoorL26
import Derived.Test.YtnnalcfdeldocaaGreatDoorL27
import Derived.Test.YtnnalcfdeldocaaGreatDoorL28
import Derived.Test.YtnnalcfdeldocaaGreatDoorL29
namespace Go.Proofs.YtnnalcfdeldocaaGreatDoor
open Go
theorem own_tie : Tryz.prog.laidByTextLater LD KD true :=
  Program.laidByTextLater_by_run 400 8 tie_hw tie_hw2 tie_hroot tie_hk tie_hg tie_hn tie_hd tie_h1 tie_h2 tie_hp
end Go.Proofs.YtnnalcfdeldocaaGreatDoor
