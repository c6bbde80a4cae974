/-
  Plain laws: the sums of a text bit by bit, by bytes, and by tables.
-/
namespace Go.Proofs.YthigfpaajbejdaaGreatDoor.Crc

/-- One bit of a sum of n bits. -/
def one (n poly c : Nat) : Nat := (2 * c % 2 ^ n) ^^^ (poly * (c / 2 ^ (n - 1)))
def go (n poly : Nat) : Nat → Nat → Nat
  | 0, c => c
  | k + 1, c => one n poly (go n poly k c)
theorem go_add (n poly i : Nat) : ∀ j c, go n poly (i + j) c = go n poly j (go n poly i c)
  | 0, c => rfl
  | j + 1, c => by show one n poly (go n poly (i + j) c) = one n poly (go n poly j (go n poly i c)); rw [go_add n poly i j c]

theorem top_lt {n c : Nat} (hn : 0 < n) (hc : c < 2 ^ n) : c / 2 ^ (n - 1) < 2 := by
  refine (Nat.div_lt_iff_lt_mul (Nat.two_pow_pos _)).2 ?_
  have : 2 ^ n = 2 * 2 ^ (n - 1) := by
    rw [Nat.mul_comm, ← Nat.pow_succ]; congr 1; omega
  omega
theorem mul_xor (p : Nat) {x y : Nat} (hx : x < 2) (hy : y < 2) : p * (x ^^^ y) = (p * x) ^^^ (p * y) := by
  have h1 : x = 0 ∨ x = 1 := by omega
  have h2 : y = 0 ∨ y = 1 := by omega
  rcases h1 with rfl | rfl <;> rcases h2 with rfl | rfl <;> simp
theorem two_xor (a b : Nat) : 2 * (a ^^^ b) = (2 * a) ^^^ (2 * b) := by
  have := Nat.shiftLeft_xor_distrib (a := a) (b := b) (i := 1)
  simpa [Nat.shiftLeft_eq, Nat.mul_comm] using this
theorem one_lt {n poly c : Nat} (hn : 0 < n) (hp : poly < 2 ^ n) (hc : c < 2 ^ n) : one n poly c < 2 ^ n := by
  unfold one
  refine Nat.xor_lt_two_pow (Nat.mod_lt _ (Nat.two_pow_pos _)) ?_
  have h := top_lt hn hc
  generalize c / 2 ^ (n - 1) = y at *
  have h1 : y = 0 ∨ y = 1 := by omega
  rcases h1 with rfl | rfl
  · exact Nat.two_pow_pos _
  · omega
theorem go_lt {n poly : Nat} (hn : 0 < n) (hp : poly < 2 ^ n) : ∀ k {c : Nat}, c < 2 ^ n → go n poly k c < 2 ^ n
  | 0, _, hc => hc
  | k + 1, _, hc => one_lt hn hp (go_lt hn hp k hc)
theorem one_xor {n poly a b : Nat} (hn : 0 < n) (ha : a < 2 ^ n) (hb : b < 2 ^ n) : one n poly (a ^^^ b) = one n poly a ^^^ one n poly b := by
  unfold one
  rw [two_xor, Nat.xor_mod_two_pow, Nat.xor_div_two_pow, mul_xor _ (top_lt hn ha) (top_lt hn hb)]
  ac_rfl
theorem go_xor {n poly : Nat} (hn : 0 < n) (hp : poly < 2 ^ n) : ∀ k {a b : Nat}, a < 2 ^ n → b < 2 ^ n → go n poly k (a ^^^ b) = go n poly k a ^^^ go n poly k b
  | 0, _, _, _, _ => rfl
  | k + 1, _, _, ha, hb => by
    show one n poly (go n poly k _) = one n poly (go n poly k _) ^^^ one n poly (go n poly k _)
    rw [go_xor hn hp k ha hb, one_xor hn (go_lt hn hp k ha) (go_lt hn hp k hb)]
/-- Low bits only move up. -/
theorem go_low {n poly : Nat} (hn : 0 < n) : ∀ k x, x * 2 ^ k < 2 ^ n → go n poly k x = x * 2 ^ k
  | 0, x, _ => by simp [go]
  | k + 1, x, h => by
    have e : 2 ^ (k + 1) = 2 * 2 ^ k := by rw [Nat.pow_succ]; omega
    have h2 : x * 2 ^ (k + 1) = 2 * (x * 2 ^ k) := by rw [e]; rw [Nat.mul_left_comm]
    have hk : x * 2 ^ k < 2 ^ n := by omega
    show one n poly (go n poly k x) = _
    rw [go_low hn k x hk]
    unfold one
    have hd : x * 2 ^ k / 2 ^ (n - 1) = 0 := by
      apply Nat.div_eq_of_lt
      have : 2 ^ n = 2 * 2 ^ (n - 1) := by rw [Nat.mul_comm, ← Nat.pow_succ]; congr 1; omega
      omega
    rw [hd, h2, Nat.mod_eq_of_lt (by omega)]; simp

/-- A byte taken. -/
def byte (n poly c s : Nat) : Nat := go n poly 8 (c ^^^ s * 2 ^ (n - 8))
def text (n poly : Nat) (l : List Nat) : Nat := l.foldl (byte n poly) 0
theorem shl_lt {n s : Nat} (hn : 8 ≤ n) (hs : s < 256) : s * 2 ^ (n - 8) < 2 ^ n := by
  have e : 2 ^ n = 256 * 2 ^ (n - 8) := by
    rw [show (256 : Nat) = 2 ^ 8 by decide, ← Nat.pow_add]; congr 1; omega
  rw [e]; exact Nat.mul_lt_mul_of_pos_right hs (Nat.two_pow_pos _)
theorem byte_lt {n poly c s : Nat} (hn : 8 ≤ n) (hp : poly < 2 ^ n) (hc : c < 2 ^ n) (hs : s < 256) : byte n poly c s < 2 ^ n :=
  go_lt (by omega) hp 8 (Nat.xor_lt_two_pow hc (shl_lt hn hs))
theorem text_lt {n poly : Nat} (hn : 8 ≤ n) (hp : poly < 2 ^ n) : ∀ (l : List Nat) (c : Nat), (∀ s ∈ l, s < 256) → c < 2 ^ n → l.foldl (byte n poly) c < 2 ^ n
  | [], _, _, hc => hc
  | s :: l, _, hl, hc => text_lt hn hp l _ (fun t ht => hl t (List.mem_cons_of_mem _ ht)) (byte_lt hn hp hc (hl s (List.mem_cons_self ..)))

/-- As the document has it: one bit of the text. -/
def bit (n poly c b : Nat) : Nat := if (b ^^^ (c / 2 ^ (n - 1) % 2)) = 1 then (2 * c % 2 ^ n) ^^^ poly else 2 * c % 2 ^ n
/-- k bits of a byte, the highest first. -/
def bits (n poly c s : Nat) : Nat → Nat
  | 0 => c
  | k + 1 => bit n poly (bits n poly c s k) (s / 2 ^ (7 - k) % 2)
theorem bit_lt {n poly c b : Nat} (hp : poly < 2 ^ n) : bit n poly c b < 2 ^ n := by
  unfold bit
  split
  · exact Nat.xor_lt_two_pow (Nat.mod_lt _ (Nat.two_pow_pos _)) hp
  · exact Nat.mod_lt _ (Nat.two_pow_pos _)
theorem bits_lt {n poly c s : Nat} (hp : poly < 2 ^ n) (hc : c < 2 ^ n) : ∀ k, bits n poly c s k < 2 ^ n
  | 0 => hc
  | _ + 1 => bit_lt hp
theorem bits_go {n poly c s : Nat} (hn : 8 ≤ n) (hp : poly < 2 ^ n) (hc : c < 2 ^ n) (hs : s < 256) :
    ∀ k, k ≤ 8 → go n poly k (c ^^^ s * 2 ^ (n - 8)) = bits n poly c s k ^^^ (s * 2 ^ (n - 8 + k) % 2 ^ n)
  | 0, _ => by
    show _ = c ^^^ _
    rw [Nat.add_zero, Nat.mod_eq_of_lt (shl_lt hn hs)]; rfl
  | k + 1, hk => by
    have ih := bits_go hn hp hc hs k (by omega)
    have hr := bits_lt (s := s) hp hc k
    show one n poly (go n poly k _) = bit n poly (bits n poly c s k) _ ^^^ _
    rw [ih]
    generalize bits n poly c s k = r at *
    have hm : s * 2 ^ (n - 8 + k) % 2 ^ n < 2 ^ n := Nat.mod_lt _ (Nat.two_pow_pos _)
    rw [one_xor (by omega) hr hm]
    have e1 : s * 2 ^ (n - 8 + (k + 1)) = 2 * (s * 2 ^ (n - 8 + k)) := by
      rw [show n - 8 + (k + 1) = (n - 8 + k) + 1 by omega, Nat.pow_succ, Nat.mul_comm (2 ^ _) 2, Nat.mul_left_comm]
    have e2 : 2 * (s * 2 ^ (n - 8 + k) % 2 ^ n) % 2 ^ n = s * 2 ^ (n - 8 + (k + 1)) % 2 ^ n := by
      rw [e1, Nat.mul_mod, Nat.mod_mod, ← Nat.mul_mod]
    have e3 : s * 2 ^ (n - 8 + k) % 2 ^ n / 2 ^ (n - 1) = s / 2 ^ (7 - k) % 2 := by
      have h1 : 2 ^ n = 2 ^ (n - 1) * 2 := by rw [← Nat.pow_succ]; congr 1; omega
      rw [h1, Nat.mod_mul_right_div_self]
      congr 1
      have h2 : 2 ^ (n - 1) = 2 ^ (n - 8 + k) * 2 ^ (7 - k) := by rw [← Nat.pow_add]; congr 1; omega
      rw [h2, Nat.mul_comm s, Nat.mul_div_mul_left _ _ (Nat.two_pow_pos _)]
    have hb : s / 2 ^ (7 - k) % 2 < 2 := Nat.mod_lt _ (by decide)
    have ht := top_lt (by omega : 0 < n) hr
    have e4 : r / 2 ^ (n - 1) % 2 = r / 2 ^ (n - 1) := Nat.mod_eq_of_lt ht
    show ((2 * r % 2 ^ n) ^^^ (poly * (r / 2 ^ (n - 1)))) ^^^ ((2 * (s * 2 ^ (n - 8 + k) % 2 ^ n) % 2 ^ n) ^^^ (poly * (s * 2 ^ (n - 8 + k) % 2 ^ n / 2 ^ (n - 1)))) = _
    rw [e2, e3]
    unfold bit
    rw [e4]
    generalize s / 2 ^ (7 - k) % 2 = x at *
    generalize r / 2 ^ (n - 1) = y at *
    have hx : x = 0 ∨ x = 1 := by omega
    have hy : y = 0 ∨ y = 1 := by omega
    rcases hx with rfl | rfl <;> rcases hy with rfl | rfl
    · simp
    · simp
    · simp; ac_rfl
    · have : ∀ a b q : Nat, (a ^^^ (q * 1)) ^^^ (b ^^^ (q * 1)) = a ^^^ b := by
        intro a b q
        rw [Nat.mul_one, show (a ^^^ q) ^^^ (b ^^^ q) = (a ^^^ b) ^^^ (q ^^^ q) by ac_rfl]; simp
      rw [this]; simp
theorem byte_eq {n poly c s : Nat} (hn : 8 ≤ n) (hp : poly < 2 ^ n) (hc : c < 2 ^ n) (hs : s < 256) : bits n poly c s 8 = byte n poly c s := by
  unfold byte
  rw [bits_go hn hp hc hs 8 (Nat.le_refl _), show n - 8 + 8 = n by omega, Nat.mul_mod_left]; simp

/-- The table's n-th page: a byte, and n noughts behind it. -/
def page (j k : Nat) : Nat := go 16 0x8005 (8 * (j + 1)) (k * 256)
theorem page_zero (k : Nat) : page 0 k = byte 16 0x8005 0 k := by
  unfold page byte; simp
theorem low_lt (c : Nat) : c % 256 * 2 ^ 8 < 2 ^ 16 := by
  have h := Nat.mod_lt c (show 0 < 256 by decide)
  generalize c % 256 = x at *
  have : x * 256 < 65536 := by omega
  exact this
theorem low_eq (c : Nat) : c % 256 * 2 ^ 8 = c * 256 % 65536 := (Nat.mul_mod_mul_right 256 c 256).symm
theorem step16 {c : Nat} (hc : c < 65536) : go 16 0x8005 8 c = (c * 256 % 65536) ^^^ page 0 (c / 256) := by
  have h1 : c % 256 < 2 ^ 16 := by omega
  have h2 : c / 256 * 256 < 2 ^ 16 := by omega
  have h3 : c % 256 * 2 ^ 8 < 2 ^ 16 := low_lt c
  have h4 : c % 256 * 2 ^ 8 = c * 256 % 65536 := low_eq c
  have e : c = (c % 256) ^^^ (c / 256 * 256) := by
    have h := Nat.two_pow_add_eq_or_of_lt (i := 8) (b := c % 256) (Nat.mod_lt _ (by decide)) (c / 256)
    have h2 : c % 256 ^^^ c / 256 * 256 = c / 256 * 256 + c % 256 := by
      apply Nat.eq_of_testBit_eq
      intro i
      rw [Nat.testBit_xor, show c / 256 * 256 = 2 ^ 8 * (c / 256) by rw [Nat.mul_comm], Nat.testBit_two_pow_mul_add _ (Nat.mod_lt _ (by decide)), Nat.testBit_two_pow_mul]
      by_cases hi : i < 8
      · have h8 : ¬ 8 ≤ i := by omega
        simp [hi, h8]
      · have h8 : 8 ≤ i := by omega
        have : (c % 256).testBit i = false := Nat.testBit_lt_two_pow (Nat.lt_of_lt_of_le (Nat.mod_lt _ (by decide)) (Nat.pow_le_pow_right (n := 2) (by decide) h8 : 2 ^ 8 ≤ 2 ^ i))
        simp [hi, h8, this]
    rw [h2]; omega
  conv => lhs; rw [e, go_xor (by decide) (by decide) 8 h1 h2, go_low (n := 16) (poly := 0x8005) (by decide) 8 (c % 256) h3, h4]
  unfold page
  rfl
theorem page_succ (j k : Nat) (hk : k < 256) : page (j + 1) k = (page j k * 256 % 65536) ^^^ page 0 (page j k / 256) := by
  have hp : page j k < 65536 := go_lt (n := 16) (by decide) (by decide) _ (by omega)
  rw [← step16 hp]
  unfold page
  rw [show 8 * (j + 1 + 1) = 8 * (j + 1) + 8 by omega, go_add]
theorem page_lt (j k : Nat) (hk : k < 256) : page j k < 65536 := go_lt (n := 16) (by decide) (by decide) _ (by omega)
theorem split16 {c : Nat} (hc : c < 65536) : c = (c / 256 * 256) ^^^ (c % 256) := by
  apply Nat.eq_of_testBit_eq
  intro i
  have e : c = 2 ^ 8 * (c / 256) + c % 256 := by omega
  rw [Nat.testBit_xor, show c / 256 * 256 = 2 ^ 8 * (c / 256) by rw [Nat.mul_comm], Nat.testBit_two_pow_mul]
  conv => lhs; rw [e, Nat.testBit_two_pow_mul_add _ (Nat.mod_lt _ (by decide))]
  by_cases hi : i < 8
  · have h8 : ¬ 8 ≤ i := by omega
    simp [hi, h8]
  · have h8 : 8 ≤ i := by omega
    have : (c % 256).testBit i = false := Nat.testBit_lt_two_pow (Nat.lt_of_lt_of_le (Nat.mod_lt _ (by decide)) (Nat.pow_le_pow_right (n := 2) (by decide) h8 : 2 ^ 8 ≤ 2 ^ i))
    simp [hi, h8, this]
theorem xor_mul (a b : Nat) : (a ^^^ b) * 256 = a * 256 ^^^ b * 256 := by
  have := Nat.shiftLeft_xor_distrib (a := a) (b := b) (i := 8)
  simpa [Nat.shiftLeft_eq] using this
/-- One byte by the table. -/
theorem byte16 {c s : Nat} (hc : c < 65536) (hs : s < 256) : byte 16 0x8005 c s = (c * 256 % 65536) ^^^ page 0 (c / 256 ^^^ s) := by
  have hx : c / 256 ^^^ s < 2 ^ 8 := Nat.xor_lt_two_pow (by omega) hs
  have e : c ^^^ s * 2 ^ (16 - 8) = (c / 256 ^^^ s) * 256 ^^^ c % 256 := by
    conv => lhs; rw [split16 hc]
    rw [xor_mul]; simp only [Nat.reducePow, Nat.reduceSub]; ac_rfl
  unfold byte
  rw [e, go_xor (by decide) (by decide) 8 (by omega) (by omega), go_low (n := 16) (poly := 0x8005) (by decide) 8 (c % 256) (low_lt c)]
  unfold page
  have : c % 256 * 2 ^ 8 = c * 256 % 65536 := low_eq c
  rw [this]; simp only [Nat.mul_one, Nat.zero_add]; rw [Nat.xor_comm]
theorem byte_xor {c d s : Nat} (hc : c < 65536) (hd : d < 65536) (hs : s < 256) : byte 16 0x8005 (c ^^^ d) s = byte 16 0x8005 c s ^^^ go 16 0x8005 8 d := by
  unfold byte
  have hs' : s * 2 ^ (16 - 8) < 2 ^ 16 := shl_lt (by decide) hs
  rw [show c ^^^ d ^^^ s * 2 ^ (16 - 8) = (c ^^^ s * 2 ^ (16 - 8)) ^^^ d by ac_rfl, go_xor (by decide) (by decide) 8 (Nat.xor_lt_two_pow hc hs') hd]
/-- A byte behind what pages gave. -/
theorem page_next {d s : Nat} (hd : d < 65536) (hs : s < 256) : byte 16 0x8005 d s = go 16 0x8005 8 d ^^^ page 0 s := by
  have h := byte_xor (c := 0) (d := d) (by decide) hd hs
  rw [Nat.zero_xor] at h
  rw [h, Nat.xor_comm]
  congr 1
  unfold byte page; simp
theorem go_page (j k : Nat) : go 16 0x8005 8 (page j k) = page (j + 1) k := by
  unfold page
  rw [show 8 * (j + 1 + 1) = 8 * (j + 1) + 8 by omega, go_add]
/-- Eight bytes at once. -/
theorem eight {c s0 s1 s2 s3 s4 s5 s6 s7 : Nat} (hc : c < 65536) (h0 : s0 < 256) (h1 : s1 < 256) (h2 : s2 < 256) (h3 : s3 < 256) (h4 : s4 < 256) (h5 : s5 < 256) (h6 : s6 < 256) (h7 : s7 < 256) :
    [s0, s1, s2, s3, s4, s5, s6, s7].foldl (byte 16 0x8005) c =
      page 7 (c / 256 ^^^ s0) ^^^ page 6 (c % 256 ^^^ s1) ^^^ page 5 s2 ^^^ page 4 s3 ^^^ page 3 s4 ^^^ page 2 s5 ^^^ page 1 s6 ^^^ page 0 s7 := by
  have L : ∀ j k, k < 256 → page j k < 2 ^ 16 := fun j k hk => page_lt j k hk
  have X : ∀ a b : Nat, a < 2 ^ 16 → b < 2 ^ 16 → a ^^^ b < 2 ^ 16 := fun a b ha hb => Nat.xor_lt_two_pow ha hb
  have G : ∀ a b : Nat, a < 2 ^ 16 → b < 2 ^ 16 → go 16 0x8005 8 (a ^^^ b) = go 16 0x8005 8 a ^^^ go 16 0x8005 8 b := fun a b ha hb => go_xor (by decide) (by decide) 8 ha hb
  have x0 : c / 256 ^^^ s0 < 256 := Nat.xor_lt_two_pow (n := 8) (by omega) h0
  have x1 : c % 256 ^^^ s1 < 256 := Nat.xor_lt_two_pow (n := 8) (by omega) h1
  have PX : ∀ a b : Nat, a < 256 → b < 256 → page 0 (a ^^^ b) = page 0 a ^^^ page 0 b := by
    intro a b ha hb
    unfold page
    rw [xor_mul]; exact go_xor (by decide) (by decide) _ (by omega) (by omega)
  -- the first two bytes
  have e1 : byte 16 0x8005 c s0 = page 0 (c / 256 ^^^ s0) ^^^ (c % 256) * 256 := by
    rw [byte16 hc h0, Nat.xor_comm]; congr 1; omega
  have lo : (c % 256) * 256 < 2 ^ 16 := by omega
  have e2 : byte 16 0x8005 (byte 16 0x8005 c s0) s1 = page 1 (c / 256 ^^^ s0) ^^^ page 0 (c % 256 ^^^ s1) := by
    rw [e1, page_next (X _ _ (L 0 _ x0) lo) h1, G _ _ (L 0 _ x0) lo, go_page, PX _ _ (by omega) h1, Nat.xor_assoc]
    congr 1
  simp only [List.foldl_cons, List.foldl_nil, e2]
  have st : ∀ d s, d < 2 ^ 16 → s < 256 → byte 16 0x8005 d s = go 16 0x8005 8 d ^^^ page 0 s := fun d s hd hs => page_next hd hs
  have x00 := fun j => L j _ x0
  have x11 := fun j => L j _ x1
  have l2 := fun j => L j _ h2
  have l3 := fun j => L j _ h3
  have l4 := fun j => L j _ h4
  have l5 := fun j => L j _ h5
  have l6 := fun j => L j _ h6
  have l7 := fun j => L j _ h7
  rw [st _ _ (X _ _ (x00 1) (x11 0)) h2, G _ _ (x00 1) (x11 0), go_page, go_page]
  rw [st _ _ (X _ _ (X _ _ (x00 2) (x11 1)) (l2 0)) h3, G _ _ (X _ _ (x00 2) (x11 1)) (l2 0), G _ _ (x00 2) (x11 1), go_page, go_page, go_page]
  rw [st _ _ (X _ _ (X _ _ (X _ _ (x00 3) (x11 2)) (l2 1)) (l3 0)) h4, G _ _ (X _ _ (X _ _ (x00 3) (x11 2)) (l2 1)) (l3 0), G _ _ (X _ _ (x00 3) (x11 2)) (l2 1), G _ _ (x00 3) (x11 2), go_page, go_page, go_page, go_page]
  rw [st _ _ (X _ _ (X _ _ (X _ _ (X _ _ (x00 4) (x11 3)) (l2 2)) (l3 1)) (l4 0)) h5, G _ _ (X _ _ (X _ _ (X _ _ (x00 4) (x11 3)) (l2 2)) (l3 1)) (l4 0), G _ _ (X _ _ (X _ _ (x00 4) (x11 3)) (l2 2)) (l3 1), G _ _ (X _ _ (x00 4) (x11 3)) (l2 2), G _ _ (x00 4) (x11 3), go_page, go_page, go_page, go_page, go_page]
  rw [st _ _ (X _ _ (X _ _ (X _ _ (X _ _ (X _ _ (x00 5) (x11 4)) (l2 3)) (l3 2)) (l4 1)) (l5 0)) h6, G _ _ (X _ _ (X _ _ (X _ _ (X _ _ (x00 5) (x11 4)) (l2 3)) (l3 2)) (l4 1)) (l5 0), G _ _ (X _ _ (X _ _ (X _ _ (x00 5) (x11 4)) (l2 3)) (l3 2)) (l4 1), G _ _ (X _ _ (X _ _ (x00 5) (x11 4)) (l2 3)) (l3 2), G _ _ (X _ _ (x00 5) (x11 4)) (l2 3), G _ _ (x00 5) (x11 4), go_page, go_page, go_page, go_page, go_page, go_page]
  rw [st _ _ (X _ _ (X _ _ (X _ _ (X _ _ (X _ _ (X _ _ (x00 6) (x11 5)) (l2 4)) (l3 3)) (l4 2)) (l5 1)) (l6 0)) h7, G _ _ (X _ _ (X _ _ (X _ _ (X _ _ (X _ _ (x00 6) (x11 5)) (l2 4)) (l3 3)) (l4 2)) (l5 1)) (l6 0), G _ _ (X _ _ (X _ _ (X _ _ (X _ _ (x00 6) (x11 5)) (l2 4)) (l3 3)) (l4 2)) (l5 1), G _ _ (X _ _ (X _ _ (X _ _ (x00 6) (x11 5)) (l2 4)) (l3 3)) (l4 2), G _ _ (X _ _ (X _ _ (x00 6) (x11 5)) (l2 4)) (l3 3), G _ _ (X _ _ (x00 6) (x11 5)) (l2 4), G _ _ (x00 6) (x11 5), go_page, go_page, go_page, go_page, go_page, go_page, go_page]
end Go.Proofs.YthigfpaajbejdaaGreatDoor.Crc
