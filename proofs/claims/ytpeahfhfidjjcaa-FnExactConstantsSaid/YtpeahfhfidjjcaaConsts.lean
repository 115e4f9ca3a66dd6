/- The walk of FnExactConstants: it returns true, in every world. Conditions: none. -/
import Derived.Test.YtpeahfhfidjjcaaProg
import Derived.WalkKit
import Derived.Below
namespace Go.Proofs.Ytpeahfhfidjjcaa.Consts
open Go.RowKit
set_option maxHeartbeats 8000000 in
set_option maxRecDepth 100000 in
theorem walk (w : World) : Calls Try.prog 3 #[] w fun e w' => e = .returned (.bool true) ∧ w' = w := by
  go_enter Try.func3, Try.ntmps3
  go_wp2
  go_ret
  exact ⟨rfl, rfl⟩
end Go.Proofs.Ytpeahfhfidjjcaa.Consts
