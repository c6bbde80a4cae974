/-
  feed.Of: a feed that has fetched nothing.
-/
import Derived.Test.YthigfpaajbejdaaGreatDoorBase
import Derived.Test.YthigfpaajbejdaaGreatDoorProg
namespace Go.Proofs.YthigfpaajbejdaaGreatDoor
open Go.RowKit

theorem feedOf_any (tv : Nat) (x : Value) (w : World) : Calls Tryz.prog 111 #[.iface tv x] w fun e w' => e = .returned (.pointer (some ⟨w.heap.size, 0, none⟩)) ∧ w' = w.alloc (.cells #[.iface tv x, .string ⟨#[]⟩, .nilIface, .slice none 0 0, .int .i64 0] 280) := by
  go_enter Tryz.func111, Tryz.ntmps111
  go_wp2
  go_ret
  exact ⟨rfl, rfl⟩
end Go.Proofs.YthigfpaajbejdaaGreatDoor
