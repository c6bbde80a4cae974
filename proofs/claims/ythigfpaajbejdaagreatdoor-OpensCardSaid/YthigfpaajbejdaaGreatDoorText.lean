/-
  How many bits a number has: plain laws.
-/
/-
  Numbers as text, and an error's text: that they end, and give some text.
-/
import Derived.Test.YthigfpaajbejdaaGreatDoorBase
import Derived.Test.YthigfpaajbejdaaGreatDoorProg
namespace Go.Proofs.YthigfpaajbejdaaGreatDoor

def blen (n : Nat) : Nat := if n = 0 then 0 else n.log2 + 1
theorem blen_zero : blen 0 = 0 := rfl
theorem blen_pos {n : Nat} (h : n ≠ 0) : 1 ≤ blen n := by unfold blen; rw [if_neg h]; omega
theorem blen_lt (n : Nat) : n < 2 ^ blen n := by
  unfold blen
  split
  · rename_i h; subst h; decide
  · exact Nat.lt_log2_self
theorem blen_le {n : Nat} (h : n ≠ 0) : 2 ^ (blen n - 1) ≤ n := by
  unfold blen; rw [if_neg h, Nat.add_sub_cancel]; exact Nat.log2_self_le h
theorem blen_unique {n k : Nat} (h1 : n < 2 ^ k) (h2 : k = 0 ∨ 2 ^ (k - 1) ≤ n) : blen n = k := by
  by_cases h0 : n = 0
  · subst h0
    rcases h2 with rfl | h2
    · rfl
    · have := Nat.two_pow_pos (k - 1); omega
  · have a := blen_lt n
    have b := blen_le h0
    have c := blen_pos h0
    rcases Nat.lt_trichotomy (blen n) k with h | h | h
    · have hk : blen n ≤ k - 1 := by omega
      have := Nat.pow_le_pow_right (n := 2) (by decide) hk
      rcases h2 with rfl | h2 <;> omega
    · exact h
    · have hk : k ≤ blen n - 1 := by omega
      have := Nat.pow_le_pow_right (n := 2) (by decide) hk
      omega
theorem blen_div {n k : Nat} (h : 2 ^ k ≤ n) : blen n = blen (n / 2 ^ k) + k := by
  have hp := Nat.two_pow_pos k
  have h0 : n / 2 ^ k ≠ 0 := by
    have := Nat.div_pos h hp; omega
  have a := blen_lt (n / 2 ^ k)
  have b := blen_le h0
  have c := blen_pos h0
  refine blen_unique ?_ (.inr ?_)
  · rw [Nat.pow_add]
    exact (Nat.div_lt_iff_lt_mul hp).1 a
  · have e : blen (n / 2 ^ k) + k - 1 = (blen (n / 2 ^ k) - 1) + k := by omega
    rw [e, Nat.pow_add]
    exact (Nat.le_div_iff_mul_le hp).1 b
theorem blen_le_of_lt {n k : Nat} (h : n < 2 ^ k) : blen n ≤ k := by
  by_cases h0 : n = 0
  · subst h0; simp [blen]
  · have b := blen_le h0
    have c := blen_pos h0
    rcases Nat.lt_or_ge k (blen n) with h1 | h1
    · have := Nat.pow_le_pow_right (n := 2) (by decide) (show k ≤ blen n - 1 by omega)
      omega
    · exact h1
end Go.Proofs.YthigfpaajbejdaaGreatDoor
namespace Go.Proofs.YthigfpaajbejdaaGreatDoor
open Go.RowKit

theorem byteAt (s : ByteArray) (x : Nat) (h : x < s.size) : s[x]'h = s.data.toList.getD x 0 := by
  have h' : x < s.data.size := h
  simp only [List.getD, ByteArray.getElem_eq_getElem_data, Array.getElem?_toList, Array.getElem?_eq_getElem h', Option.getD_some]

set_option maxRecDepth 100000 in
set_option maxHeartbeats 1000000 in
theorem len8_any (x : Nat) (h : x < 256) (w : World) : Calls Tryz.prog 263 #[.int .u8 x] w fun e w' => e = .returned (.int .i64 (blen x)) ∧ w = w' := by
  go_enter Tryz.func263, Tryz.ntmps263
  go_wp2_with fail
  go_ret
  refine ⟨congrArg (fun z => Ending.returned (.int .i64 z)) ?_, rfl⟩
  rw [byteAt]
  clear w
  rename_i h1
  clear h1
  revert h
  revert x
  decide +kernel
theorem lz8_any (x : Nat) (h : x < 256) (w : World) : Calls Tryz.prog 262 #[.int .u8 x] w fun e w' => e = .returned (.int .i64 ((8 - blen x : Nat))) ∧ w = w' := by
  have hb : blen x ≤ 8 := blen_le_of_lt h
  go_enter Tryz.func262, Tryz.ntmps262
  go_wp2_with (go_at_call 263; refine (len8_any _ h _).mono ?_; rintro e w' ⟨rfl, rfl⟩)
  go_ret
  refine ⟨congrArg (fun z => Ending.returned (.int .i64 z)) ?_, rfl⟩
  show ((8 : Int) - blen x) = ((8 - blen x : Nat) : Int)
  omega
set_option maxRecDepth 100000 in
set_option maxHeartbeats 1000000 in
theorem len64_000 (x : Nat) (g4294967296 : decide (4294967296 ≤ (x : Int)) = false) (g65536 : decide (65536 ≤ (x : Int)) = false) (g256 : decide (256 ≤ (x : Int)) = false) (hi : (x : Int) < 256) (hb : Hid (blen x = blen (x) + 0)) (w : World) : Calls Tryz.prog 191 #[.int .u64 x] w fun e w' => e = .returned (.int .i64 (blen x)) ∧ w = w' := by
  go_enter Tryz.func191, Tryz.ntmps191
  go_wp2_with fail
  go_ret
  rw [hb.out]
  refine ⟨congrArg (fun z => Ending.returned (.int .i64 z)) ?_, rfl⟩
  rw [byteAt]
  refine (?_ : ∀ j : Nat, j < 256 → wrap64 (wrap64 ↑((_ : ByteArray).data.toList.getD j 0).toNat) = ((blen j + 0 : Nat) : Int)) _ (by omega)
  decide +kernel

set_option maxRecDepth 100000 in
set_option maxHeartbeats 1000000 in
theorem len64_001 (x : Nat) (g4294967296 : decide (4294967296 ≤ (x : Int)) = false) (g65536 : decide (65536 ≤ (x : Int)) = false) (g256 : decide (256 ≤ (x : Int)) = true) (hi : (x : Int) / 256 < 256) (hb : Hid (blen x = blen (x / 256) + 8)) (w : World) : Calls Tryz.prog 191 #[.int .u64 x] w fun e w' => e = .returned (.int .i64 (blen x)) ∧ w = w' := by
  go_enter Tryz.func191, Tryz.ntmps191
  go_wp2_with fail
  go_ret
  rw [hb.out]
  refine ⟨congrArg (fun z => Ending.returned (.int .i64 z)) ?_, rfl⟩
  rw [byteAt]
  refine (?_ : ∀ j : Nat, j < 256 → wrap64 (8 + wrap64 ↑((_ : ByteArray).data.toList.getD j 0).toNat) = ((blen j + 8 : Nat) : Int)) _ (by omega)
  decide +kernel

set_option maxRecDepth 100000 in
set_option maxHeartbeats 1000000 in
theorem len64_010 (x : Nat) (g4294967296 : decide (4294967296 ≤ (x : Int)) = false) (g65536 : decide (65536 ≤ (x : Int)) = true) (g256 : decide (256 ≤ (x : Int) / 65536) = false) (hi : (x : Int) / 65536 < 256) (hb : Hid (blen x = blen (x / 65536) + 16)) (w : World) : Calls Tryz.prog 191 #[.int .u64 x] w fun e w' => e = .returned (.int .i64 (blen x)) ∧ w = w' := by
  go_enter Tryz.func191, Tryz.ntmps191
  go_wp2_with fail
  go_ret
  rw [hb.out]
  refine ⟨congrArg (fun z => Ending.returned (.int .i64 z)) ?_, rfl⟩
  rw [byteAt]
  refine (?_ : ∀ j : Nat, j < 256 → wrap64 (16 + wrap64 ↑((_ : ByteArray).data.toList.getD j 0).toNat) = ((blen j + 16 : Nat) : Int)) _ (by omega)
  decide +kernel

set_option maxRecDepth 100000 in
set_option maxHeartbeats 1000000 in
theorem len64_011 (x : Nat) (g4294967296 : decide (4294967296 ≤ (x : Int)) = false) (g65536 : decide (65536 ≤ (x : Int)) = true) (g256 : decide (256 ≤ (x : Int) / 65536) = true) (hi : (x : Int) / 65536 / 256 < 256) (hb : Hid (blen x = blen (x / 65536 / 256) + 24)) (w : World) : Calls Tryz.prog 191 #[.int .u64 x] w fun e w' => e = .returned (.int .i64 (blen x)) ∧ w = w' := by
  go_enter Tryz.func191, Tryz.ntmps191
  go_wp2_with fail
  go_ret
  rw [hb.out]
  refine ⟨congrArg (fun z => Ending.returned (.int .i64 z)) ?_, rfl⟩
  rw [byteAt]
  refine (?_ : ∀ j : Nat, j < 256 → wrap64 (24 + wrap64 ↑((_ : ByteArray).data.toList.getD j 0).toNat) = ((blen j + 24 : Nat) : Int)) _ (by omega)
  decide +kernel

set_option maxRecDepth 100000 in
set_option maxHeartbeats 1000000 in
theorem len64_100 (x : Nat) (g4294967296 : decide (4294967296 ≤ (x : Int)) = true) (g65536 : decide (65536 ≤ (x : Int) / 4294967296) = false) (g256 : decide (256 ≤ (x : Int) / 4294967296) = false) (hi : (x : Int) / 4294967296 < 256) (hb : Hid (blen x = blen (x / 4294967296) + 32)) (w : World) : Calls Tryz.prog 191 #[.int .u64 x] w fun e w' => e = .returned (.int .i64 (blen x)) ∧ w = w' := by
  go_enter Tryz.func191, Tryz.ntmps191
  go_wp2_with fail
  go_ret
  rw [hb.out]
  refine ⟨congrArg (fun z => Ending.returned (.int .i64 z)) ?_, rfl⟩
  rw [byteAt]
  refine (?_ : ∀ j : Nat, j < 256 → wrap64 (32 + wrap64 ↑((_ : ByteArray).data.toList.getD j 0).toNat) = ((blen j + 32 : Nat) : Int)) _ (by omega)
  decide +kernel

set_option maxRecDepth 100000 in
set_option maxHeartbeats 1000000 in
theorem len64_101 (x : Nat) (g4294967296 : decide (4294967296 ≤ (x : Int)) = true) (g65536 : decide (65536 ≤ (x : Int) / 4294967296) = false) (g256 : decide (256 ≤ (x : Int) / 4294967296) = true) (hi : (x : Int) / 4294967296 / 256 < 256) (hb : Hid (blen x = blen (x / 4294967296 / 256) + 40)) (w : World) : Calls Tryz.prog 191 #[.int .u64 x] w fun e w' => e = .returned (.int .i64 (blen x)) ∧ w = w' := by
  go_enter Tryz.func191, Tryz.ntmps191
  go_wp2_with fail
  go_ret
  rw [hb.out]
  refine ⟨congrArg (fun z => Ending.returned (.int .i64 z)) ?_, rfl⟩
  rw [byteAt]
  refine (?_ : ∀ j : Nat, j < 256 → wrap64 (40 + wrap64 ↑((_ : ByteArray).data.toList.getD j 0).toNat) = ((blen j + 40 : Nat) : Int)) _ (by omega)
  decide +kernel

set_option maxRecDepth 100000 in
set_option maxHeartbeats 1000000 in
theorem len64_110 (x : Nat) (g4294967296 : decide (4294967296 ≤ (x : Int)) = true) (g65536 : decide (65536 ≤ (x : Int) / 4294967296) = true) (g256 : decide (256 ≤ (x : Int) / 4294967296 / 65536) = false) (hi : (x : Int) / 4294967296 / 65536 < 256) (hb : Hid (blen x = blen (x / 4294967296 / 65536) + 48)) (w : World) : Calls Tryz.prog 191 #[.int .u64 x] w fun e w' => e = .returned (.int .i64 (blen x)) ∧ w = w' := by
  go_enter Tryz.func191, Tryz.ntmps191
  go_wp2_with fail
  go_ret
  rw [hb.out]
  refine ⟨congrArg (fun z => Ending.returned (.int .i64 z)) ?_, rfl⟩
  rw [byteAt]
  refine (?_ : ∀ j : Nat, j < 256 → wrap64 (48 + wrap64 ↑((_ : ByteArray).data.toList.getD j 0).toNat) = ((blen j + 48 : Nat) : Int)) _ (by omega)
  decide +kernel

set_option maxRecDepth 100000 in
set_option maxHeartbeats 1000000 in
theorem len64_111 (x : Nat) (g4294967296 : decide (4294967296 ≤ (x : Int)) = true) (g65536 : decide (65536 ≤ (x : Int) / 4294967296) = true) (g256 : decide (256 ≤ (x : Int) / 4294967296 / 65536) = true) (hi : (x : Int) / 4294967296 / 65536 / 256 < 256) (hb : Hid (blen x = blen (x / 4294967296 / 65536 / 256) + 56)) (w : World) : Calls Tryz.prog 191 #[.int .u64 x] w fun e w' => e = .returned (.int .i64 (blen x)) ∧ w = w' := by
  go_enter Tryz.func191, Tryz.ntmps191
  go_wp2_with fail
  go_ret
  rw [hb.out]
  refine ⟨congrArg (fun z => Ending.returned (.int .i64 z)) ?_, rfl⟩
  rw [byteAt]
  refine (?_ : ∀ j : Nat, j < 256 → wrap64 (56 + wrap64 ↑((_ : ByteArray).data.toList.getD j 0).toNat) = ((blen j + 56 : Nat) : Int)) _ (by omega)
  decide +kernel

theorem len64_any (x : Nat) (h : x < 18446744073709551616) (w : World) : Calls Tryz.prog 191 #[.int .u64 x] w fun e w' => e = .returned (.int .i64 (blen x)) ∧ w = w' := by
  by_cases h0 : 4294967296 ≤ x
  · have q0 : blen (x) = blen (x / 4294967296) + 32 := blen_div (k := 32) h0
    by_cases h1 : 65536 ≤ x / 4294967296
    · have q1 : blen (x / 4294967296) = blen (x / 4294967296 / 65536) + 16 := blen_div (k := 16) h1
      by_cases h2 : 256 ≤ x / 4294967296 / 65536
      · have q2 : blen (x / 4294967296 / 65536) = blen (x / 4294967296 / 65536 / 256) + 8 := blen_div (k := 8) h2
        exact len64_111 x (by simp; omega) (by simp; omega) (by simp; omega) (by omega) (by unfold Hid; omega) w
      · skip
        exact len64_110 x (by simp; omega) (by simp; omega) (by simp; omega) (by omega) (by unfold Hid; omega) w
    · skip
      by_cases h2 : 256 ≤ x / 4294967296
      · have q2 : blen (x / 4294967296) = blen (x / 4294967296 / 256) + 8 := blen_div (k := 8) h2
        exact len64_101 x (by simp; omega) (by simp; omega) (by simp; omega) (by omega) (by unfold Hid; omega) w
      · skip
        exact len64_100 x (by simp; omega) (by simp; omega) (by simp; omega) (by omega) (by unfold Hid; omega) w
  · skip
    by_cases h1 : 65536 ≤ x
    · have q1 : blen (x) = blen (x / 65536) + 16 := blen_div (k := 16) h1
      by_cases h2 : 256 ≤ x / 65536
      · have q2 : blen (x / 65536) = blen (x / 65536 / 256) + 8 := blen_div (k := 8) h2
        exact len64_011 x (by simp; omega) (by simp; omega) (by simp; omega) (by omega) (by unfold Hid; omega) w
      · skip
        exact len64_010 x (by simp; omega) (by simp; omega) (by simp; omega) (by omega) (by unfold Hid; omega) w
    · skip
      by_cases h2 : 256 ≤ x
      · have q2 : blen (x) = blen (x / 256) + 8 := blen_div (k := 8) h2
        exact len64_001 x (by simp; omega) (by simp; omega) (by simp; omega) (by omega) (by unfold Hid; omega) w
      · skip
        exact len64_000 x (by simp; omega) (by simp; omega) (by simp; omega) (by omega) (by unfold Hid; omega) w
theorem lz64_any (x : Nat) (h : x < 18446744073709551616) (w : World) : Calls Tryz.prog 259 #[.int .u64 x] w fun e w' => e = .returned (.int .i64 ((64 - blen x : Nat))) ∧ w = w' := by
  have hb : blen x ≤ 64 := blen_le_of_lt (k := 64) h
  have hx : Hid (x < 18446744073709551616) := h
  clear h
  go_enter Tryz.func259, Tryz.ntmps259
  go_wp2_with (go_at_call 191; refine (len64_any _ hx.out _).mono ?_; rintro e w' ⟨rfl, rfl⟩)
  go_ret
  refine ⟨congrArg (fun z => Ending.returned (.int .i64 z)) ?_, rfl⟩
  show ((64 : Int) - blen x) = ((64 - blen x : Nat) : Int)
  omega
end Go.Proofs.YthigfpaajbejdaaGreatDoor
