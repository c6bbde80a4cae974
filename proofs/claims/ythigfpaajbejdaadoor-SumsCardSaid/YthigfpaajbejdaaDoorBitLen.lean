/-
  How many bits a number has: plain laws.
-/
namespace Go.Proofs.YthigfpaajbejdaaDoor

def blen (n : Nat) : Nat := if n = 0 then 0 else n.log2 + 1
theorem blen_zero : blen 0 = 0 := rfl
theorem blen_pos {n : Nat} (h : n ≠ 0) : 1 ≤ blen n := by unfold blen; rw [if_neg h]; omega
theorem blen_lt (n : Nat) : n < 2 ^ blen n := by
  unfold blen
  split
  · rename_i h; subst h; decide
  · exact Nat.lt_log2_self
theorem blen_le {n : Nat} (h : n ≠ 0) : 2 ^ (blen n - 1) ≤ n := by
  unfold blen; rw [if_neg h, Nat.add_sub_cancel]; exact Nat.log2_self_le h
theorem blen_unique {n k : Nat} (h1 : n < 2 ^ k) (h2 : k = 0 ∨ 2 ^ (k - 1) ≤ n) : blen n = k := by
  by_cases h0 : n = 0
  · subst h0
    rcases h2 with rfl | h2
    · rfl
    · have := Nat.two_pow_pos (k - 1); omega
  · have a := blen_lt n
    have b := blen_le h0
    have c := blen_pos h0
    rcases Nat.lt_trichotomy (blen n) k with h | h | h
    · have hk : blen n ≤ k - 1 := by omega
      have := Nat.pow_le_pow_right (n := 2) (by decide) hk
      rcases h2 with rfl | h2 <;> omega
    · exact h
    · have hk : k ≤ blen n - 1 := by omega
      have := Nat.pow_le_pow_right (n := 2) (by decide) hk
      omega
theorem blen_div {n k : Nat} (h : 2 ^ k ≤ n) : blen n = blen (n / 2 ^ k) + k := by
  have hp := Nat.two_pow_pos k
  have h0 : n / 2 ^ k ≠ 0 := by
    have := Nat.div_pos h hp; omega
  have a := blen_lt (n / 2 ^ k)
  have b := blen_le h0
  have c := blen_pos h0
  refine blen_unique ?_ (.inr ?_)
  · rw [Nat.pow_add]
    exact (Nat.div_lt_iff_lt_mul hp).1 a
  · have e : blen (n / 2 ^ k) + k - 1 = (blen (n / 2 ^ k) - 1) + k := by omega
    rw [e, Nat.pow_add]
    exact (Nat.le_div_iff_mul_le hp).1 b
theorem blen_le_of_lt {n k : Nat} (h : n < 2 ^ k) : blen n ≤ k := by
  by_cases h0 : n = 0
  · subst h0; simp [blen]
  · have b := blen_le h0
    have c := blen_pos h0
    rcases Nat.lt_or_ge k (blen n) with h1 | h1
    · have := Nat.pow_le_pow_right (n := 2) (by decide) (show k ≤ blen n - 1 by omega)
      omega
    · exact h1
end Go.Proofs.YthigfpaajbejdaaDoor
