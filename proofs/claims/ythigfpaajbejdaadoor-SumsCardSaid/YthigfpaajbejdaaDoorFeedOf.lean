/-
  feed.Of: a feed that has fetched nothing.
-/
import Derived.Test.YthigfpaajbejdaaDoorBase
import Derived.Test.YthigfpaajbejdaaDoorProg
namespace Go.Proofs.YthigfpaajbejdaaDoor
open Go.RowKit

theorem feedOf_any (tv : Nat) (x : Value) (w : World) : Calls Tryd.prog 52 #[.iface tv x] w fun e w' => e = .returned (.pointer (some ⟨w.heap.size, 0, none⟩)) ∧ w' = w.alloc (.cells #[.iface tv x, .string ⟨#[]⟩, .nilIface, .slice none 0 0, .int .i64 0] 179) := by
  go_enter Tryd.func52, Tryd.ntmps52
  go_wp2
  go_ret
  exact ⟨rfl, rfl⟩
end Go.Proofs.YthigfpaajbejdaaDoor
