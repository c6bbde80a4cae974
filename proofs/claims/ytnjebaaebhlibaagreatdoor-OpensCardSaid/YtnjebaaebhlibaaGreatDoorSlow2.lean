/-
  bitio.slow, walked: Unary where no one comes, Align.
-/
import Derived.Test.YtnjebaaebhlibaaGreatDoorSlow
namespace Go.Proofs.YtnjebaaebhlibaaGreatDoor
open Go.RowKit

theorem sRead_ok' {B : Nat} {w : World} {rb bs : Nat} {c : Cfg} {p : Nat} {S : List Nat} (h : SlowS B w rb bs c p S) {z : Int} {n : Nat} (hz : z = (n : Int)) (hn : n ≤ 64) (hp : p + n ≤ 8 * c.lim.1) :
    Calls Tryz.prog 114 #[.pointer (some ⟨rb, 0, none⟩), .int .i64 z] w fun e w' => e = .returned (.tuple #[.int .u64 (c.bits p n), .nilIface]) ∧ Moved (SlowS B · rb bs c) w S (p + n) w' := by
  subst hz; exact sRead_ok h n hn hp
/-- The rest of a byte is always there. -/
def toEnd (p : Nat) : Nat := (8 - p % 8) % 8
end Go.Proofs.YtnjebaaebhlibaaGreatDoor
