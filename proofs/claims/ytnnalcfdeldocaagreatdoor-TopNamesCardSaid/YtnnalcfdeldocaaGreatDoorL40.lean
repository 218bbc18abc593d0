/- topNames: the row's closed facts, joined. -/
import Derived.Test.YtnnalcfdeldocaaGreatDoorL31
import Derived.Test.YtnnalcfdeldocaaGreatDoorL32
import Derived.Test.YtnnalcfdeldocaaGreatDoorL33
import Derived.Test.YtnnalcfdeldocaaGreatDoorL34
import Derived.Test.YtnnalcfdeldocaaGreatDoorL35
import Derived.Test.YtnnalcfdeldocaaGreatDoorL36
import Derived.Test.YtnnalcfdeldocaaGreatDoorL37
import Derived.Test.YtnnalcfdeldocaaGreatDoorL38
import Derived.Test.YtnnalcfdeldocaaGreatDoorL39
namespace Go.Proofs.YtnnalcfdeldocaaGreatDoor.X
open Go
theorem and2 {a b : Bool} (h : a = true) (k : b = true) : (a && b) = true := by rw [h, k]; rfl
set_option maxRecDepth 100000 in
theorem topNames_facts : joinedFacts Tryz.prog 4 Tryz.f4 Rows.topNamesSpec Rows.topNamesRow = true := by
  have h := and2 (and2 (and2 (and2 (and2 (and2 (and2 (and2 (and2 (and2 (and2 (and2 (and2 (and2 (and2 (and2 (and2 (and2 (and2 (and2 (and2 (and2 (and2 (and2 (and2 (and2 (and2 (and2 (and2 (and2 (and2 tf0 tf1) tf2) tf3) tf4) tf5) tf6) tf7) tf8) tf9) tf10) tf11) tf12) tf13) tf14) tf15) tf16) tf17) tf18) tf19) tf20) tf21) tf22) tf23) tf24) tf25) tf26) tf27) tf28) tf29) tf30) tf31
  unfold joinedFacts
  exact h
end Go.Proofs.YtnnalcfdeldocaaGreatDoor.X
