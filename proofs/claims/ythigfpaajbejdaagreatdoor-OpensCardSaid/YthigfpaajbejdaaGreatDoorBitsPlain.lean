/-
  Plain laws: the bits of a text.
-/
import Derived.Test.YthigfpaajbejdaaGreatDoorTake
namespace Go.Proofs.YthigfpaajbejdaaGreatDoor

/-- A text's bit. -/
def Cfg.bit (c : Cfg) (p : Nat) : Nat := c.byte (p / 8) / 2 ^ (7 - p % 8) % 2
/-- The number that n bits from p on make. -/
def Cfg.bits (c : Cfg) (p : Nat) : Nat → Nat
  | 0 => 0
  | n + 1 => 2 * c.bits p n + c.bit (p + n)
theorem Cfg.bit_lt (c : Cfg) (p : Nat) : c.bit p < 2 := Nat.mod_lt _ (by decide)
theorem Cfg.bits_lt (c : Cfg) (p : Nat) : ∀ n, c.bits p n < 2 ^ n
  | 0 => Nat.one_pos
  | n + 1 => by
    have h1 := c.bits_lt p n
    have h2 := c.bit_lt (p + n)
    have h3 : 2 ^ (n + 1) = 2 * 2 ^ n := by rw [Nat.pow_succ]; omega
    unfold bits
    omega
theorem Cfg.byte_lt (c : Cfg) (i : Nat) : c.byte i < 256 := UInt8.toNat_lt _
theorem Cfg.bits_add (c : Cfg) (p m : Nat) : ∀ n, c.bits p (m + n) = c.bits p m * 2 ^ n + c.bits (p + m) n
  | 0 => by simp [bits]
  | n + 1 => by
    have ih := c.bits_add p m n
    show 2 * c.bits p (m + n) + c.bit (p + (m + n)) = _ + (2 * c.bits (p + m) n + c.bit (p + m + n))
    rw [ih, Nat.add_assoc p m n, Nat.pow_succ, Nat.mul_add, ← Nat.mul_assoc]
    have : 2 * c.bits p m * 2 ^ n = c.bits p m * (2 ^ n * 2) := by rw [Nat.mul_comm 2, Nat.mul_assoc, Nat.mul_comm 2]
    omega
theorem Cfg.bits_one (c : Cfg) (p : Nat) : c.bits p 1 = c.bit p := by simp [bits]
theorem Cfg.bits_byte (c : Cfg) (q : Nat) : c.bits (8 * q) 8 = c.byte q := by
  have hb := c.byte_lt q
  have e : ∀ i, i < 8 → c.bit (8 * q + i) = c.byte q / 2 ^ (7 - i) % 2 := by
    intro i hi
    unfold bit
    rw [show (8 * q + i) / 8 = q by omega, show (8 * q + i) % 8 = i by omega]
  simp only [bits]
  rw [e 0 (by decide), e 1 (by decide), e 2 (by decide), e 3 (by decide), e 4 (by decide), e 5 (by decide), e 6 (by decide), e 7 (by decide)]
  generalize c.byte q = b at *
  simp only [Nat.reducePow, Nat.reduceSub]
  omega
theorem Cfg.bit_at (c : Cfg) (q i : Nat) : c.bit (8 * q + i) = c.byte (q + i / 8) / 2 ^ (7 - i % 8) % 2 := by
  unfold bit
  rw [show (8 * q + i) / 8 = q + i / 8 by omega, show (8 * q + i) % 8 = i % 8 by omega]
/-- What the reservoir holds. -/
def Cfg.res (c : Cfg) (p n : Nat) : Nat := c.bits p n * 2 ^ (64 - n)
theorem Cfg.res_lt (c : Cfg) (p n : Nat) (hn : n ≤ 64) : c.res p n < 18446744073709551616 := by
  have h := c.bits_lt p n
  have e : 18446744073709551616 = 2 ^ n * 2 ^ (64 - n) := by rw [← Nat.pow_add, show n + (64 - n) = 64 by omega]
  rw [e]; exact Nat.mul_lt_mul_of_pos_right h (Nat.two_pow_pos _)
theorem join_or (i x y : Nat) (hx : x % 2 ^ i = 0) (hy : y < 2 ^ i) : x ||| y = x + y := by
  have e : x = 2 ^ i * (x / 2 ^ i) := by have := Nat.div_add_mod x (2 ^ i); omega
  rw [e, Nat.two_pow_add_eq_or_of_lt hy]
theorem Cfg.res_fill (c : Cfg) (p n q : Nat) (hn : n ≤ 56) (hq : p + n = 8 * q) : c.res p n ||| (c.byte q * 2 ^ (56 - n)) % 18446744073709551616 = c.res p (n + 8) := by
  have hb := c.byte_lt q
  have e1 : c.byte q * 2 ^ (56 - n) < 2 ^ (64 - n) := by
    rw [show 64 - n = 8 + (56 - n) by omega, Nat.pow_add]; exact Nat.mul_lt_mul_of_pos_right hb (Nat.two_pow_pos _)
  have e2 : (2 : Nat) ^ (64 - n) ≤ 18446744073709551616 := by
    have := Nat.pow_le_pow_right (n := 2) (by decide) (show 64 - n ≤ 64 by omega)
    exact this
  rw [Nat.mod_eq_of_lt (by omega), join_or (64 - n) _ _ (by unfold res; exact Nat.mul_mod_left _ _) e1]
  unfold res
  rw [Cfg.bits_add, hq, Cfg.bits_byte, show 64 - n = 8 + (56 - n) by omega, show 64 - (n + 8) = 56 - n by omega, Nat.pow_add]
  rw [Nat.add_mul, Nat.mul_assoc]
theorem Cfg.res_split (c : Cfg) (p k n : Nat) (hk : k ≤ n) (hn : n ≤ 64) : c.res p n = c.bits p k * 2 ^ (64 - k) + c.bits (p + k) (n - k) * 2 ^ (64 - n) := by
  unfold res
  have h := c.bits_add p k (n - k)
  rw [show k + (n - k) = n by omega] at h
  rw [h, Nat.add_mul, Nat.mul_assoc, ← Nat.pow_add, show n - k + (64 - n) = 64 - k by omega]
theorem Cfg.res_rest (c : Cfg) (p k n : Nat) (hk : k ≤ n) (hn : n ≤ 64) : c.bits (p + k) (n - k) * 2 ^ (64 - n) < 2 ^ (64 - k) := by
  have h := c.bits_lt (p + k) (n - k)
  rw [show 64 - k = (n - k) + (64 - n) by omega, Nat.pow_add]; exact Nat.mul_lt_mul_of_pos_right h (Nat.two_pow_pos _)
theorem Cfg.res_top (c : Cfg) (p k n : Nat) (hk : k ≤ n) (hn : n ≤ 64) : c.res p n / 2 ^ (64 - k) = c.bits p k := by
  rw [c.res_split p k n hk hn, Nat.add_comm, Nat.add_mul_div_right _ _ (Nat.two_pow_pos _), Nat.div_eq_of_lt (c.res_rest p k n hk hn), Nat.zero_add]
theorem Cfg.res_skip (c : Cfg) (p k n : Nat) (hk : k ≤ n) (hn : n ≤ 64) : c.res p n * 2 ^ k % 18446744073709551616 = c.res (p + k) (n - k) := by
  have h := c.res_lt (p + k) (n - k) (by omega)
  rw [c.res_split p k n hk hn, Nat.add_mul, Nat.mul_assoc, ← Nat.pow_add, show 64 - k + k = 64 by omega, Nat.mul_assoc, ← Nat.pow_add, show 64 - n + k = 64 - (n - k) by omega]
  show (c.bits p k * 18446744073709551616 + c.res (p + k) (n - k)) % 18446744073709551616 = _
  omega
/-- n noughts stand ahead of the next one. -/
def Cfg.una (c : Cfg) (p n : Nat) : Prop := c.bits p n = 0 ∧ c.bit (p + n) = 1
theorem Cfg.bits_zero_le (c : Cfg) (p n k : Nat) (hk : k ≤ n) (h : c.bits p n = 0) : c.bits p k = 0 := by
  have h2 := c.bits_add p k (n - k)
  rw [show k + (n - k) = n by omega, h] at h2
  have h3 : c.bits p k * 2 ^ (n - k) = 0 := by omega
  rcases Nat.mul_eq_zero.1 h3 with h4 | h4
  · exact h4
  · have := Nat.two_pow_pos (n - k); omega
theorem Cfg.bit_of_zero (c : Cfg) (p n k : Nat) (hk : k < n) (h : c.bits p n = 0) : c.bit (p + k) = 0 := by
  have h2 := c.bits_zero_le p n (k + 1) (by omega) h
  simp only [bits] at h2
  omega
theorem Cfg.una_unique (c : Cfg) (p n m : Nat) (h : c.una p n) (h' : c.una p m) : n = m := by
  obtain ⟨h1, h2⟩ := h
  obtain ⟨h3, h4⟩ := h'
  rcases Nat.lt_trichotomy n m with hl | hl | hl
  · have := c.bit_of_zero p m n hl h3; omega
  · exact hl
  · have := c.bit_of_zero p n m hl h1; omega
theorem Cfg.bits_zero_add (c : Cfg) (p m n : Nat) : c.bits p (m + n) = 0 ↔ c.bits p m = 0 ∧ c.bits (p + m) n = 0 := by
  constructor
  · intro h
    have h1 := c.bits_zero_le p (m + n) m (by omega) h
    have h2 := c.bits_add p m n
    rw [h, h1] at h2
    exact ⟨h1, by omega⟩
  · rintro ⟨h1, h2⟩
    rw [c.bits_add, h1, h2]; omega
theorem Cfg.una_add (c : Cfg) (p m n : Nat) (h : c.bits p m = 0) (h' : c.una (p + m) n) : c.una p (m + n) :=
  ⟨(c.bits_zero_add p m n).2 ⟨h, h'.1⟩, by rw [← Nat.add_assoc]; exact h'.2⟩
/-- The first one of a number of k bits, by how many bits the number has. -/
theorem Cfg.una_num (c : Cfg) (p k b : Nat) (hb : 0 < b) (hbk : b ≤ k) (h1 : 2 ^ (b - 1) ≤ c.bits p k) (h2 : c.bits p k < 2 ^ b) : c.una p (k - b) := by
  have h3 := c.bits_add p (k - b) b
  rw [show k - b + b = k by omega] at h3
  have h4 : c.bits p (k - b) = 0 := by
    rcases Nat.eq_zero_or_pos (c.bits p (k - b)) with h | h
    · exact h
    · have : 1 * 2 ^ b ≤ c.bits p (k - b) * 2 ^ b := Nat.mul_le_mul_right _ h
      omega
  refine ⟨h4, ?_⟩
  have h5 := c.bits_add p (k - b + 1) (b - 1)
  rw [show k - b + 1 + (b - 1) = k by omega] at h5
  simp only [bits] at h5
  rw [h4] at h5
  have h6 := c.bits_lt (p + (k - b + 1)) (b - 1)
  have h7 := c.bit_lt (p + (k - b))
  rcases Nat.lt_or_ge (c.bit (p + (k - b))) 1 with h8 | h8
  · have : c.bit (p + (k - b)) = 0 := by omega
    rw [this] at h5; simp at h5; omega
  · omega
end Go.Proofs.YthigfpaajbejdaaGreatDoor
