/-
  Plain laws: the sum of 16 bytes.
-/
namespace Go.Proofs.YthigfpaajbejdaaDoor.Md

def sines : List Nat := [
  0xd76aa478, 0xe8c7b756, 0x242070db, 0xc1bdceee, 0xf57c0faf, 0x4787c62a, 0xa8304613, 0xfd469501,
  0x698098d8, 0x8b44f7af, 0xffff5bb1, 0x895cd7be, 0x6b901122, 0xfd987193, 0xa679438e, 0x49b40821,
  0xf61e2562, 0xc040b340, 0x265e5a51, 0xe9b6c7aa, 0xd62f105d, 0x02441453, 0xd8a1e681, 0xe7d3fbc8,
  0x21e1cde6, 0xc33707d6, 0xf4d50d87, 0x455a14ed, 0xa9e3e905, 0xfcefa3f8, 0x676f02d9, 0x8d2a4c8a,
  0xfffa3942, 0x8771f681, 0x6d9d6122, 0xfde5380c, 0xa4beea44, 0x4bdecfa9, 0xf6bb4b60, 0xbebfbc70,
  0x289b7ec6, 0xeaa127fa, 0xd4ef3085, 0x04881d05, 0xd9d4d039, 0xe6db99e5, 0x1fa27cf8, 0xc4ac5665,
  0xf4292244, 0x432aff97, 0xab9423a7, 0xfc93a039, 0x655b59c3, 0x8f0ccc92, 0xffeff47d, 0x85845dd1,
  0x6fa87e4f, 0xfe2ce6e0, 0xa3014314, 0x4e0811a1, 0xf7537e82, 0xbd3af235, 0x2ad7d2bb, 0xeb86d391]
def turns : List Nat := [7, 12, 17, 22, 5, 9, 14, 20, 4, 11, 16, 23, 6, 10, 15, 21]
def rot (x n : Nat) : Nat := (x * 2 ^ n % 4294967296) ||| (x / 2 ^ (32 - n))
def mixF (k b c d : Nat) : Nat :=
  if k / 16 = 0 then (b &&& c) ||| ((4294967295 - b) &&& d)
  else if k / 16 = 1 then (d &&& b) ||| ((4294967295 - d) &&& c)
  else if k / 16 = 2 then (b ^^^ c) ^^^ d
  else c ^^^ (b ||| (4294967295 - d))
def mixG (k : Nat) : Nat :=
  if k / 16 = 0 then k
  else if k / 16 = 1 then (5 * k + 1) % 16
  else if k / 16 = 2 then (3 * k + 5) % 16
  else 7 * k % 16
structure St where
  a : Nat
  b : Nat
  c : Nat
  d : Nat
def St.ok (s : St) : Prop := s.a < 4294967296 ∧ s.b < 4294967296 ∧ s.c < 4294967296 ∧ s.d < 4294967296
def turn (k : Nat) : Nat := turns.getD (4 * (k / 16) + k % 4) 0
def step (w : Nat → Nat) (k : Nat) (s : St) : St :=
  ⟨s.d, (s.b + rot ((mixF k s.b s.c s.d + s.a + sines.getD k 0 + w (mixG k)) % 4294967296) (turn k)) % 4294967296, s.b, s.c⟩
def steps (w : Nat → Nat) (s : St) : Nat → St
  | 0 => s
  | k + 1 => step w k (steps w s k)
def block (w : Nat → Nat) (s : St) : St :=
  ⟨(s.a + (steps w s 64).a) % 4294967296, (s.b + (steps w s 64).b) % 4294967296, (s.c + (steps w s 64).c) % 4294967296, (s.d + (steps w s 64).d) % 4294967296⟩
/-- The g-th word of the bytes from o on. -/
def word (l : Nat → Nat) (o g : Nat) : Nat := l (o + 4 * g) + 256 * l (o + 4 * g + 1) + 65536 * l (o + 4 * g + 2) + 16777216 * l (o + 4 * g + 3)
def start : St := ⟨0x67452301, 0xefcdab89, 0x98badcfe, 0x10325476⟩
def runs (l : Nat → Nat) (s : St) : Nat → St
  | 0 => s
  | k + 1 => block (word l (64 * k)) (runs l s k)
/-- A text of n bytes, and what is laid behind it. -/
def padded (l : Nat → Nat) (n : Nat) (i : Nat) : Nat :=
  if i < n then l i else if i = n then 128 else if i < 64 * ((n + 8) / 64) + 56 then 0 else 8 * n / 2 ^ (8 * (i - (64 * ((n + 8) / 64) + 56))) % 256
def full (n : Nat) : Nat := (n + 8) / 64 + 1
def out (s : St) (i : Nat) : Nat := (if i / 4 = 0 then s.a else if i / 4 = 1 then s.b else if i / 4 = 2 then s.c else s.d) / 2 ^ (8 * (i % 4)) % 256
/-- The sum of n bytes. -/
def sum (l : Nat → Nat) (n : Nat) : List Nat := (List.range 16).map (out (runs (padded l n) start (full n)))

theorem mixG_lt {k : Nat} (hk : k < 64) : mixG k < 16 := by unfold mixG; split <;> (try split) <;> (try split) <;> omega
theorem turn_bounds {k : Nat} (hk : k < 64) : 4 ≤ turn k ∧ turn k ≤ 23 := by
  revert k; decide +kernel
theorem sines_lt (k : Nat) : sines.getD k 0 < 4294967296 := by
  rcases Nat.lt_or_ge k 64 with h | h
  · revert k; decide +kernel
  · have : sines[k]? = none := List.getElem?_eq_none (by simpa [sines] using h)
    rw [List.getD, this]; decide
theorem and_lt (a b : Nat) (h : b < 4294967296) : a &&& b < 4294967296 := Nat.and_lt_two_pow (n := 32) a h
theorem and_lt' (a b : Nat) (h : a < 4294967296) : a &&& b < 4294967296 := by rw [Nat.and_comm]; exact and_lt b a h
theorem or_lt (a b : Nat) (h : a < 4294967296) (h' : b < 4294967296) : a ||| b < 4294967296 := Nat.or_lt_two_pow (n := 32) h h'
theorem xor_lt (a b : Nat) (h : a < 4294967296) (h' : b < 4294967296) : a ^^^ b < 4294967296 := Nat.xor_lt_two_pow (n := 32) h h'
theorem mixF_lt {k b c d : Nat} (hb : b < 4294967296) (hc : c < 4294967296) (hd : d < 4294967296) : mixF k b c d < 4294967296 := by
  unfold mixF
  split
  · exact or_lt _ _ (and_lt _ _ hc) (and_lt _ _ hd)
  · split
    · exact or_lt _ _ (and_lt _ _ hb) (and_lt _ _ hc)
    · split
      · exact xor_lt _ _ (xor_lt _ _ hb hc) hd
      · exact xor_lt _ _ hc (or_lt _ _ hb (by omega))
theorem rot_lt {x n : Nat} (hx : x < 4294967296) : rot x n < 4294967296 :=
  or_lt _ _ (Nat.mod_lt _ (by decide)) (Nat.lt_of_le_of_lt (Nat.div_le_self _ _) hx)
theorem step_ok (w : Nat → Nat) (k : Nat) {s : St} (h : s.ok) : (step w k s).ok :=
  ⟨h.2.2.2, Nat.mod_lt _ (by decide), h.2.1, h.2.2.1⟩
theorem steps_ok (w : Nat → Nat) {s : St} (h : s.ok) : ∀ k, (steps w s k).ok
  | 0 => h
  | k + 1 => step_ok w k (steps_ok w h k)
theorem block_ok (w : Nat → Nat) (s : St) : (block w s).ok := ⟨Nat.mod_lt _ (by decide), Nat.mod_lt _ (by decide), Nat.mod_lt _ (by decide), Nat.mod_lt _ (by decide)⟩
theorem runs_ok (l : Nat → Nat) {s : St} (h : s.ok) : ∀ k, (runs l s k).ok
  | 0 => h
  | _ + 1 => block_ok _ _
theorem start_ok : start.ok := ⟨by decide, by decide, by decide, by decide⟩
theorem steps_congr {w w' : Nat → Nat} (s : St) (h : ∀ g, g < 16 → w g = w' g) : ∀ k, k ≤ 64 → steps w s k = steps w' s k
  | 0, _ => rfl
  | k + 1, hk => by
    show step w k (steps w s k) = step w' k (steps w' s k)
    rw [steps_congr s h k (by omega)]
    unfold step
    rw [h _ (mixG_lt (by omega))]
theorem block_congr {w w' : Nat → Nat} (s : St) (h : ∀ g, g < 16 → w g = w' g) : block w s = block w' s := by
  unfold block; rw [steps_congr s h 64 (Nat.le_refl _)]
theorem word_congr {l l' : Nat → Nat} {o o' : Nat} (h : ∀ i, i < 64 → l (o + i) = l' (o' + i)) (g : Nat) (hg : g < 16) : word l o g = word l' o' g := by
  unfold word
  have h0 := h (4 * g) (by omega)
  have h1 := h (4 * g + 1) (by omega)
  have h2 := h (4 * g + 2) (by omega)
  have h3 := h (4 * g + 3) (by omega)
  simp only [← Nat.add_assoc] at h0 h1 h2 h3
  rw [h0, h1, h2, h3]
theorem runs_congr {l l' : Nat → Nat} (s : St) : ∀ k, (∀ i, i < 64 * k → l i = l' i) → runs l s k = runs l' s k
  | 0, _ => rfl
  | k + 1, h => by
    show block _ (runs l s k) = block _ (runs l' s k)
    rw [runs_congr s k (fun i hi => h i (by omega))]
    exact block_congr _ (fun g hg => word_congr (fun i hi => h _ (by omega)) g hg)
theorem runs_add {l l' : Nat → Nat} (s : St) (m : Nat) : ∀ k, (∀ i, i < 64 * k → l (64 * m + i) = l' i) → runs l s (m + k) = runs l' (runs l s m) k
  | 0, _ => rfl
  | k + 1, h => by
    show block _ (runs l s (m + k)) = block _ (runs l' _ k)
    rw [runs_add s m k (fun i hi => h i (by omega))]
    exact block_congr _ (fun g hg => word_congr (fun i hi => by rw [show 64 * m.add k + i = 64 * m + (64 * k + i) from (by show 64 * (m + k) + i = _; omega)]; exact h _ (by omega)) g hg)
theorem word_lt {l : Nat → Nat} (h : ∀ i, l i < 256) (o g : Nat) : word l o g < 4294967296 := by
  unfold word
  have h0 := h (o + 4 * g)
  have h1 := h (o + 4 * g + 1)
  have h2 := h (o + 4 * g + 2)
  have h3 := h (o + 4 * g + 3)
  omega
theorem padded_lt {l : Nat → Nat} (h : ∀ i, l i < 256) (n i : Nat) : padded l n i < 256 := by
  unfold padded
  split
  · exact h i
  · split
    · decide
    · split
      · decide
      · exact Nat.mod_lt _ (by decide)
theorem out_lt (s : St) (i : Nat) : out s i < 256 := Nat.mod_lt _ (by decide)
end Go.Proofs.YthigfpaajbejdaaDoor.Md
