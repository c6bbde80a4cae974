/-
  check: mix, RotateLeft32, block, walked.
-/
import Derived.Test.YthigfpaajbejdaaDoorBase
import Derived.Test.YthigfpaajbejdaaDoorMdPlain
import Derived.Test.YthigfpaajbejdaaDoorProg
import Derived.Deep.LoopGhost
import Derived.IntWalk
namespace Go.Proofs.YthigfpaajbejdaaDoor
open Go.RowKit

theorem not32 (b : Nat) (h : b < 4294967296) : bits .xor .u32 IntKind.u32.max (b : Int) = ((4294967295 - b : Nat) : Int) := by
  have hm : IntKind.u32.max = 4294967295 := by decide
  rw [hm]
  refine (u32_xor_nat 4294967295 b (by decide) h).trans ?_
  congr 1
  apply Nat.eq_of_testBit_eq
  intro i
  rw [Nat.testBit_xor]
  have h1 : (4294967295 : Nat) = 2 ^ 32 - 1 := by decide
  rw [show 4294967295 - b = 2 ^ 32 - (b + 1) by omega, h1, Nat.testBit_two_pow_sub_one, Nat.testBit_two_pow_sub_succ (by exact h)]
  by_cases hi : i < 32
  · simp [hi]
  · have : b.testBit i = false := Nat.testBit_lt_two_pow (Nat.lt_of_lt_of_le h (Nat.pow_le_pow_right (n := 2) (by decide) (show 32 ≤ i by omega)))
    simp [hi, this]
theorem pow_int (k : Nat) : ((2 : Int) ^ k) = ((2 ^ k : Nat) : Int) := by simp
theorem and32 {a b : Nat} (h : a < 4294967296) (h' : b < 4294967296) : bits .and .u32 (a : Int) (b : Int) = ((a &&& b : Nat) : Int) := u32_and_nat a b h h'
theorem or32 {a b : Nat} (h : a < 4294967296) (h' : b < 4294967296) : bits .or .u32 (a : Int) (b : Int) = ((a ||| b : Nat) : Int) := u32_or_nat a b h h'
theorem xor32 {a b : Nat} (h : a < 4294967296) (h' : b < 4294967296) : bits .xor .u32 (a : Int) (b : Int) = ((a ^^^ b : Nat) : Int) := u32_xor_nat a b h h'

set_option maxRecDepth 100000 in
set_option maxHeartbeats 1000000 in
theorem rot32_any (x n : Nat) (hx : x < 4294967296) (hn : 4 ≤ n) (hn2 : n ≤ 23) (w : World) :
    Calls Tryd.prog 59 #[.int .u32 x, .int .i64 n] w fun e w' => e = .returned (.int .u32 (Md.rot x n)) ∧ w = w' := by
  have ha : bits .and .u64 (n : Int) 31 = (n : Int) := by
    refine (u64_and_nat n 31 (by omega) (by decide)).trans ?_
    rw [nat_mask5, Nat.mod_eq_of_lt (by omega)]
  have hw : IntKind.u64.wrap (n : Int) = (n : Int) := by rw [IntKind.wrap_u64]; omega
  go_enter Tryd.func59, Tryd.ntmps59
  go_wp2_with fail
  go_ret
  refine ⟨congrArg (fun z => Ending.returned (.int .u32 z)) ?_, rfl⟩
  have e1 : ((x : Int) * 2 ^ n % 4294967296) = ((x * 2 ^ n % 4294967296 : Nat) : Int) := by rw [pow_int, ← Int.natCast_mul]; omega
  have e2 : ((x : Int) / 2 ^ (32 - n)) = ((x / 2 ^ (32 - n) : Nat) : Int) := by rw [pow_int]; rfl
  show bits .or .u32 ((x : Int) * 2 ^ n % 4294967296) ((x : Int) / 2 ^ (32 - n)) = _
  rw [e1, e2]
  exact or32 (Nat.mod_lt _ (by decide)) (Nat.lt_of_le_of_lt (Nat.div_le_self _ _) hx)
set_option maxRecDepth 100000 in
set_option maxHeartbeats 1000000 in
theorem mix_0 (k b c d : Nat) (hk : k < 16) (hb : b < 4294967296) (hc : c < 4294967296) (hd : d < 4294967296) (w : World) :
    Calls Tryd.prog 58 #[.int .i64 k, .int .u32 b, .int .u32 c, .int .u32 d] w fun e w' => e = .returned (.tuple #[.int .u32 (Md.mixF k b c d), .int .i64 (Md.mixG k)]) ∧ w = w' := by
  have hq : ((k : Int) / 16 == 0) = true := by simp; omega
  have hq1 : ((k : Int) / 16 == 1) = false := by simp; omega
  have hq2 : ((k : Int) / 16 == 2) = false := by simp; omega
  have hk64 : k < 64 := by omega
  go_enter Tryd.func58, Tryd.ntmps58
  go_wp2_with fail
  go_ret2
  refine ⟨?_, rfl⟩
  have L := fun (a b : Nat) (h : b < 4294967296) => Md.and_lt a b h
  have hnb : 4294967295 - b < 4294967296 := by omega
  have hnd : 4294967295 - d < 4294967296 := by omega
  have e1 : Md.mixF k b c d = (b &&& c) ||| ((4294967295 - b) &&& d) := by unfold Md.mixF; rw [if_pos (by omega)]
  have e2 : Md.mixG k = k := by unfold Md.mixG; rw [if_pos (by omega)]
  rw [e1, e2, ← or32 (L _ _ hc) (L _ _ hd), ← and32 hb hc, ← and32 hnb hd, ← not32 b hb]
  rfl

set_option maxRecDepth 100000 in
set_option maxHeartbeats 1000000 in
theorem mix_1 (k b c d : Nat) (hk : 16 ≤ k ∧ k < 32) (hb : b < 4294967296) (hc : c < 4294967296) (hd : d < 4294967296) (w : World) :
    Calls Tryd.prog 58 #[.int .i64 k, .int .u32 b, .int .u32 c, .int .u32 d] w fun e w' => e = .returned (.tuple #[.int .u32 (Md.mixF k b c d), .int .i64 (Md.mixG k)]) ∧ w = w' := by
  have hq : ((k : Int) / 16 == 0) = false := by simp; omega
  have hq1 : ((k : Int) / 16 == 1) = true := by simp; omega
  have hq2 : ((k : Int) / 16 == 2) = false := by simp; omega
  have hk64 : k < 64 := by omega
  go_enter Tryd.func58, Tryd.ntmps58
  go_wp2_with fail
  go_ret2
  refine ⟨?_, rfl⟩
  have L := fun (a b : Nat) (h : b < 4294967296) => Md.and_lt a b h
  have hnb : 4294967295 - b < 4294967296 := by omega
  have hnd : 4294967295 - d < 4294967296 := by omega
  have e1 : Md.mixF k b c d = (d &&& b) ||| ((4294967295 - d) &&& c) := by unfold Md.mixF; rw [if_neg (by omega), if_pos (by omega)]
  have e2 : Md.mixG k = (5 * k + 1) % 16 := by unfold Md.mixG; rw [if_neg (by omega), if_pos (by omega)]
  rw [e1, e2, ← or32 (L _ _ hb) (L _ _ hc), ← and32 hd hb, ← and32 hnd hc, ← not32 d hd]
  rfl

set_option maxRecDepth 100000 in
set_option maxHeartbeats 1000000 in
theorem mix_2 (k b c d : Nat) (hk : 32 ≤ k ∧ k < 48) (hb : b < 4294967296) (hc : c < 4294967296) (hd : d < 4294967296) (w : World) :
    Calls Tryd.prog 58 #[.int .i64 k, .int .u32 b, .int .u32 c, .int .u32 d] w fun e w' => e = .returned (.tuple #[.int .u32 (Md.mixF k b c d), .int .i64 (Md.mixG k)]) ∧ w = w' := by
  have hq : ((k : Int) / 16 == 0) = false := by simp; omega
  have hq1 : ((k : Int) / 16 == 1) = false := by simp; omega
  have hq2 : ((k : Int) / 16 == 2) = true := by simp; omega
  have hk64 : k < 64 := by omega
  go_enter Tryd.func58, Tryd.ntmps58
  go_wp2_with fail
  go_ret2
  refine ⟨?_, rfl⟩
  have L := fun (a b : Nat) (h : b < 4294967296) => Md.and_lt a b h
  have hnb : 4294967295 - b < 4294967296 := by omega
  have hnd : 4294967295 - d < 4294967296 := by omega
  have e1 : Md.mixF k b c d = (b ^^^ c) ^^^ d := by unfold Md.mixF; rw [if_neg (by omega), if_neg (by omega), if_pos (by omega)]
  have e2 : Md.mixG k = (3 * k + 5) % 16 := by unfold Md.mixG; rw [if_neg (by omega), if_neg (by omega), if_pos (by omega)]
  rw [e1, e2, ← xor32 (Md.xor_lt _ _ hb hc) hd, ← xor32 hb hc]
  rfl

set_option maxRecDepth 100000 in
set_option maxHeartbeats 1000000 in
theorem mix_3 (k b c d : Nat) (hk : 48 ≤ k ∧ k < 64) (hb : b < 4294967296) (hc : c < 4294967296) (hd : d < 4294967296) (w : World) :
    Calls Tryd.prog 58 #[.int .i64 k, .int .u32 b, .int .u32 c, .int .u32 d] w fun e w' => e = .returned (.tuple #[.int .u32 (Md.mixF k b c d), .int .i64 (Md.mixG k)]) ∧ w = w' := by
  have hq : ((k : Int) / 16 == 0) = false := by simp; omega
  have hq1 : ((k : Int) / 16 == 1) = false := by simp; omega
  have hq2 : ((k : Int) / 16 == 2) = false := by simp; omega
  have hk64 : k < 64 := by omega
  go_enter Tryd.func58, Tryd.ntmps58
  go_wp2_with fail
  go_ret2
  refine ⟨?_, rfl⟩
  have L := fun (a b : Nat) (h : b < 4294967296) => Md.and_lt a b h
  have hnb : 4294967295 - b < 4294967296 := by omega
  have hnd : 4294967295 - d < 4294967296 := by omega
  have e1 : Md.mixF k b c d = c ^^^ (b ||| (4294967295 - d)) := by unfold Md.mixF; rw [if_neg (by omega), if_neg (by omega), if_neg (by omega)]
  have e2 : Md.mixG k = 7 * k % 16 := by unfold Md.mixG; rw [if_neg (by omega), if_neg (by omega), if_neg (by omega)]
  rw [e1, e2, ← xor32 hc (Md.or_lt _ _ hb hnd), ← or32 hb hnd, ← not32 d hd]
  rfl

theorem mix_any (k b c d : Nat) (hk : k < 64) (hb : b < 4294967296) (hc : c < 4294967296) (hd : d < 4294967296) (w : World) :
    Calls Tryd.prog 58 #[.int .i64 k, .int .u32 b, .int .u32 c, .int .u32 d] w fun e w' => e = .returned (.tuple #[.int .u32 (Md.mixF k b c d), .int .i64 (Md.mixG k)]) ∧ w = w' := by
  rcases Nat.lt_or_ge k 16 with h | h
  · exact mix_0 k b c d h hb hc hd w
  · rcases Nat.lt_or_ge k 32 with h2 | h2
    · exact mix_1 k b c d ⟨h, h2⟩ hb hc hd w
    · rcases Nat.lt_or_ge k 48 with h3 | h3
      · exact mix_2 k b c d ⟨h2, h3⟩ hb hc hd w
      · exact mix_3 k b c d ⟨h3, hk⟩ hb hc hd w
end Go.Proofs.YthigfpaajbejdaaDoor
