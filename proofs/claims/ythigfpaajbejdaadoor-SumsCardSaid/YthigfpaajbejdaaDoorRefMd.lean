/-
  flacpairref's sum of 16 bytes, walked: shift, word, sines, chunk.
-/
import Derived.Test.YthigfpaajbejdaaDoorRefCrc
import Derived.Test.YthigfpaajbejdaaDoorMdPlain
import Derived.StillTailTactics
namespace Go.Proofs.YthigfpaajbejdaaDoor
open Go.RowKit

theorem join_i64 (x0 x1 x2 x3 : Nat) (h0 : x0 < 256) (h1 : x1 < 256) (h2 : x2 < 256) (h3 : x3 < 256) :
    bits .or .i64 (bits .or .i64 (bits .or .i64 (x0 : Int) ((x1 : Int) * 256)) ((x2 : Int) * 65536)) ((x3 : Int) * 16777216) = ((x0 + 256 * x1 + 65536 * x2 + 16777216 * x3 : Nat) : Int) := by
  have e1 : bits .or .i64 (x0 : Int) ((x1 : Int) * 256) = ((x0 + 256 * x1 : Nat) : Int) := by
    rw [show ((x1 : Int) * 256) = ((x1 * 256 : Nat) : Int) by omega]
    refine (i64_or_nat _ _ (by omega) (by omega)).trans ?_
    rw [Nat.or_comm, nat_join 8 (x1 * 256) x0 (by omega) (by omega)]; omega
  have e2 : bits .or .i64 ((x0 + 256 * x1 : Nat) : Int) ((x2 : Int) * 65536) = ((x0 + 256 * x1 + 65536 * x2 : Nat) : Int) := by
    rw [show ((x2 : Int) * 65536) = ((x2 * 65536 : Nat) : Int) by omega]
    refine (i64_or_nat _ _ (by omega) (by omega)).trans ?_
    rw [Nat.or_comm, nat_join 16 (x2 * 65536) (x0 + 256 * x1) (by omega) (by omega)]; omega
  rw [e1, e2, show ((x3 : Int) * 16777216) = ((x3 * 16777216 : Nat) : Int) by omega]
  refine (i64_or_nat _ _ (by omega) (by omega)).trans ?_
  rw [Nat.or_comm, nat_join 24 (x3 * 16777216) (x0 + 256 * x1 + 65536 * x2) (by omega) (by omega)]; omega
theorem i64_mask32 (x : Nat) (h : x < 9223372036854775808) : bits .and .i64 (x : Int) 4294967295 = ((x % 4294967296 : Nat) : Int) := by
  refine (i64_and_nat x 4294967295 h (by decide)).trans ?_
  exact congrArg Nat.cast (Nat.and_two_pow_sub_one_eq_mod x 32)
theorem i64_not32 (b : Nat) (h : b < 4294967296) : bits .xor .i64 4294967295 (b : Int) = ((4294967295 - b : Nat) : Int) := by
  refine (i64_xor_nat 4294967295 b (by decide) (by omega)).trans ?_
  congr 1
  apply Nat.eq_of_testBit_eq
  intro i
  rw [Nat.testBit_xor]
  have h1 : (4294967295 : Nat) = 2 ^ 32 - 1 := by decide
  rw [show 4294967295 - b = 2 ^ 32 - (b + 1) by omega, h1, Nat.testBit_two_pow_sub_one, Nat.testBit_two_pow_sub_succ (by exact h)]
  by_cases hi : i < 32
  · simp [hi]
  · have : b.testBit i = false := Nat.testBit_lt_two_pow (Nat.lt_of_lt_of_le h (Nat.pow_le_pow_right (n := 2) (by decide) (show 32 ≤ i by omega)))
    simp [hi, this]
theorem rot_i64 (x n : Nat) (hx : x < 4294967296) (hn : n ≤ 23) :
    bits .and .i64 (bits .or .i64 ((x : Int) * 2 ^ n) ((x : Int) / 2 ^ (32 - n))) 4294967295 = (Md.rot x n : Int) := by
  have hp : x * 2 ^ n < 9223372036854775808 := by
    have : 2 ^ n ≤ 2 ^ 23 := Nat.pow_le_pow_right (by decide) hn
    exact Nat.lt_of_le_of_lt (Nat.mul_le_mul (Nat.le_of_lt hx) this) (by decide)
  have hd := Nat.div_le_self x (2 ^ (32 - n))
  have e1 : ((x : Int) * 2 ^ n) = ((x * 2 ^ n : Nat) : Int) := by simp
  rw [e1, div_pow_int, i64_or_nat _ _ hp (by omega)]
  have ho : x * 2 ^ n ||| x / 2 ^ (32 - n) < 2 ^ 63 := Nat.or_lt_two_pow (by omega) (by omega)
  rw [i64_mask32 _ (by omega)]
  congr 1
  unfold Md.rot
  rw [show (4294967296 : Nat) = 2 ^ 32 by decide, Nat.or_mod_two_pow, Nat.mod_eq_of_lt (a := x / 2 ^ (32 - n)) (by omega)]
theorem ints_get (L : List Nat) (k : Nat) (hk : k < L.length) : (L.map (fun n : Nat => Value.int .i64 n)).toArray[k]? = some (.int .i64 (L.getD k 0 : Nat)) := by
  rw [List.getElem?_toArray, List.getElem?_map, List.getElem?_eq_getElem hk]
  simp [List.getD, List.getElem?_eq_getElem hk]
theorem rturns_arr : (#[Value.int .i64 7, .int .i64 12, .int .i64 17, .int .i64 22, .int .i64 5, .int .i64 9, .int .i64 14, .int .i64 20, .int .i64 4, .int .i64 11, .int .i64 16, .int .i64 23, .int .i64 6, .int .i64 10, .int .i64 15, .int .i64 21] : Array Value) = (Md.turns.map (fun n : Nat => Value.int .i64 n)).toArray := rfl
theorem rsines_arr : (#[Value.int .i64 3614090360, .int .i64 3905402710, .int .i64 606105819, .int .i64 3250441966, .int .i64 4118548399, .int .i64 1200080426, .int .i64 2821735955, .int .i64 4249261313, .int .i64 1770035416, .int .i64 2336552879, .int .i64 4294925233, .int .i64 2304563134, .int .i64 1804603682, .int .i64 4254626195, .int .i64 2792965006, .int .i64 1236535329, .int .i64 4129170786, .int .i64 3225465664, .int .i64 643717713, .int .i64 3921069994, .int .i64 3593408605, .int .i64 38016083, .int .i64 3634488961, .int .i64 3889429448, .int .i64 568446438, .int .i64 3275163606, .int .i64 4107603335, .int .i64 1163531501, .int .i64 2850285829, .int .i64 4243563512, .int .i64 1735328473, .int .i64 2368359562, .int .i64 4294588738, .int .i64 2272392833, .int .i64 1839030562, .int .i64 4259657740, .int .i64 2763975236, .int .i64 1272893353, .int .i64 4139469664, .int .i64 3200236656, .int .i64 681279174, .int .i64 3936430074, .int .i64 3572445317, .int .i64 76029189, .int .i64 3654602809, .int .i64 3873151461, .int .i64 530742520, .int .i64 3299628645, .int .i64 4096336452, .int .i64 1126891415, .int .i64 2878612391, .int .i64 4237533241, .int .i64 1700485571, .int .i64 2399980690, .int .i64 4293915773, .int .i64 2240044497, .int .i64 1873313359, .int .i64 4264355552, .int .i64 2734768916, .int .i64 1309151649, .int .i64 4149444226, .int .i64 3174756917, .int .i64 718787259, .int .i64 3951481745] : Array Value) = (Md.sines.map (fun n : Nat => Value.int .i64 n)).toArray := rfl

set_option maxRecDepth 100000 in
set_option maxHeartbeats 400000 in
theorem shift_any (k : Nat) (hk : k < 64) (w : World) :
    Calls Tryd.prog 34 #[.int .i64 k] w fun e w' => e = .returned (.int .i64 (Md.turn k)) ∧ Fr [] w w' := by
  have a1 : ((k : Int)).tdiv 16 = (k : Int) / 16 := Int.tdiv_eq_ediv_of_nonneg (by omega)
  have a2 : ((k : Int)).tmod 4 = (k : Int) % 4 := Int.tmod_eq_emod_of_nonneg (by omega)
  have hc : (w.alloc (.cells #[Value.int .i64 7, .int .i64 12, .int .i64 17, .int .i64 22, .int .i64 5, .int .i64 9, .int .i64 14, .int .i64 20, .int .i64 4, .int .i64 11, .int .i64 16, .int .i64 23, .int .i64 6, .int .i64 10, .int .i64 15, .int .i64 21] 3)).cell? ⟨w.heap.size, 4 * (k / 16) + k % 4, none⟩ = some (.int .i64 (Md.turn k)) := by
    rw [(Blk.new w _ _).cell, rturns_arr]
    exact ints_get _ _ (by show _ < 16; omega)
  go_enter Tryd.func34, Tryd.ntmps34
  go_wp2_with fail
  go_ret
  exact ⟨rfl, Fr.alloc [] w _⟩

set_option maxRecDepth 100000 in
set_option maxHeartbeats 400000 in
theorem sines_any (w : World) :
    Calls Tryd.prog 15 #[] w fun e w' => e = .returned (.slice (some ⟨w.heap.size, 0, none⟩) 64 64) ∧ (∀ i, i < 64 → w'.cell? ⟨w.heap.size, i, none⟩ = some (.int .i64 (Md.sines.getD i 0 : Nat))) ∧ Fr [] w w' := by
  go_enter Tryd.func15, Tryd.ntmps15
  go_wp2_with fail
  go_ret
  refine ⟨rfl, fun i hi => ?_, Fr.alloc [] w _⟩
  rw [(Blk.new w _ _).cell, rsines_arr]
  exact ints_get _ _ hi

set_option maxRecDepth 100000 in
set_option maxHeartbeats 400000 in
theorem rword_any {w : World} {sb off cap : Nat} {l : Nat → Nat} {o : Nat} (g : Nat) (hg : g < 16) (hl : ∀ i, l i < 256)
    (hs : ∀ i, i < 64 → w.cell? ⟨sb, off + i, none⟩ = some (.int .u8 (l (o + i)))) :
    Calls Tryd.prog 33 #[.slice (some ⟨sb, off, none⟩) 64 cap, .int .i64 g] w fun e w' => e = .returned (.int .i64 (Md.word l o g)) ∧ ∃ n, w' = w.drewN n := by
  have h0 := hs (4 * g) (by omega)
  have h1 := hs (4 * g + 1) (by omega)
  have h2 := hs (4 * g + 2) (by omega)
  have h3 := hs (4 * g + 3) (by omega)
  have b0 := hl (o + 4 * g)
  have b1 := hl (o + (4 * g + 1))
  have b2 := hl (o + (4 * g + 2))
  have b3 := hl (o + (4 * g + 3))
  clear hs hl
  have hW : Hid (Md.word l o g = l (o + 4 * g) + 256 * l (o + (4 * g + 1)) + 65536 * l (o + (4 * g + 2)) + 16777216 * l (o + (4 * g + 3))) := rfl
  generalize l (o + 4 * g) = x0 at *
  generalize l (o + (4 * g + 1)) = x1 at *
  generalize l (o + (4 * g + 2)) = x2 at *
  generalize l (o + (4 * g + 3)) = x3 at *
  generalize Md.word l o g = W at *
  have e0 : IntKind.i64.wrap (4 * (g : Int)) = 4 * (g : Int) := IntWalk.i64_in _ (by omega)
  have t0 : (4 * (g : Int)).toNat = 4 * g := by omega
  have u0 : (0 : Int) ≤ 4 * (g : Int) := by omega
  have v0 : 4 * (g : Int) < 64 := by omega
  have e1 : IntKind.i64.wrap (4 * (g : Int) + 1) = 4 * (g : Int) + 1 := IntWalk.i64_in _ (by omega)
  have t1 : (4 * (g : Int) + 1).toNat = 4 * g + 1 := by omega
  have u1 : (0 : Int) ≤ 4 * (g : Int) + 1 := by omega
  have v1 : 4 * (g : Int) + 1 < 64 := by omega
  have k1 : IntKind.i64.wrap ((x1 : Int) * 2 ^ 8) = (x1 : Int) * 2 ^ 8 := IntWalk.i64_in _ (by omega)

  have e2 : IntKind.i64.wrap (4 * (g : Int) + 2) = 4 * (g : Int) + 2 := IntWalk.i64_in _ (by omega)
  have t2 : (4 * (g : Int) + 2).toNat = 4 * g + 2 := by omega
  have u2 : (0 : Int) ≤ 4 * (g : Int) + 2 := by omega
  have v2 : 4 * (g : Int) + 2 < 64 := by omega
  have k2 : IntKind.i64.wrap ((x2 : Int) * 2 ^ 16) = (x2 : Int) * 2 ^ 16 := IntWalk.i64_in _ (by omega)

  have e3 : IntKind.i64.wrap (4 * (g : Int) + 3) = 4 * (g : Int) + 3 := IntWalk.i64_in _ (by omega)
  have t3 : (4 * (g : Int) + 3).toNat = 4 * g + 3 := by omega
  have u3 : (0 : Int) ≤ 4 * (g : Int) + 3 := by omega
  have v3 : 4 * (g : Int) + 3 < 64 := by omega
  have k3 : IntKind.i64.wrap ((x3 : Int) * 2 ^ 24) = (x3 : Int) * 2 ^ 24 := IntWalk.i64_in _ (by omega)

  go_enter Tryd.func33, Tryd.ntmps33
  go_wp2_with fail
  go_quiet (fail)
  go_wp2_with fail
  go_ret
  refine ⟨congrArg (fun z => Ending.returned (.int .i64 z)) ?_, nq, rfl⟩
  refine (join_i64 x0 x1 x2 x3 b0 b1 b2 b3).trans ?_
  rw [hW.out]

theorem mixR_0 {k b c d : Nat} (hk : k < 16) (hb : b < 4294967296) (hc : c < 4294967296) (hd : d < 4294967296) :
    bits .or .i64 (bits .and .i64 (b : Int) c) (bits .and .i64 (bits .xor .i64 4294967295 (b : Int)) d) = (Md.mixF k b c d : Int) ∧ Md.mixG k = k := by
  have L := fun (a b : Nat) (h : b < 4294967296) => Md.and_lt a b h
  have hnb : 4294967295 - b < 4294967296 := by omega
  have hnd : 4294967295 - d < 4294967296 := by omega
  have e1 : Md.mixF k b c d = (b &&& c) ||| ((4294967295 - b) &&& d) := by unfold Md.mixF; rw [if_pos (by omega)]
  have e2 : Md.mixG k = k := by unfold Md.mixG; rw [if_pos (by omega)]
  have l1 := L b c hc
  have l2 := L (4294967295 - b) d hd
  rw [e1, i64_not32 b hb, i64_and_nat b c (by omega) (by omega), i64_and_nat _ d (by omega) (by omega), i64_or_nat _ _ (by omega) (by omega)]
  exact ⟨rfl, e2⟩
theorem mixR_1 {k b c d : Nat} (hk : 16 ≤ k ∧ k < 32) (hb : b < 4294967296) (hc : c < 4294967296) (hd : d < 4294967296) :
    bits .or .i64 (bits .and .i64 (d : Int) b) (bits .and .i64 (bits .xor .i64 4294967295 (d : Int)) c) = (Md.mixF k b c d : Int) ∧ Md.mixG k = (5 * k + 1) % 16 := by
  have L := fun (a b : Nat) (h : b < 4294967296) => Md.and_lt a b h
  have hnb : 4294967295 - b < 4294967296 := by omega
  have hnd : 4294967295 - d < 4294967296 := by omega
  have e1 : Md.mixF k b c d = (d &&& b) ||| ((4294967295 - d) &&& c) := by unfold Md.mixF; rw [if_neg (by omega), if_pos (by omega)]
  have e2 : Md.mixG k = (5 * k + 1) % 16 := by unfold Md.mixG; rw [if_neg (by omega), if_pos (by omega)]
  have l1 := L d b hb
  have l2 := L (4294967295 - d) c hc
  rw [e1, i64_not32 d hd, i64_and_nat d b (by omega) (by omega), i64_and_nat _ c (by omega) (by omega), i64_or_nat _ _ (by omega) (by omega)]
  exact ⟨rfl, e2⟩
theorem mixR_2 {k b c d : Nat} (hk : 32 ≤ k ∧ k < 48) (hb : b < 4294967296) (hc : c < 4294967296) (hd : d < 4294967296) :
    bits .xor .i64 (bits .xor .i64 (b : Int) c) d = (Md.mixF k b c d : Int) ∧ Md.mixG k = (3 * k + 5) % 16 := by
  have L := fun (a b : Nat) (h : b < 4294967296) => Md.and_lt a b h
  have hnb : 4294967295 - b < 4294967296 := by omega
  have hnd : 4294967295 - d < 4294967296 := by omega
  have e1 : Md.mixF k b c d = (b ^^^ c) ^^^ d := by unfold Md.mixF; rw [if_neg (by omega), if_neg (by omega), if_pos (by omega)]
  have e2 : Md.mixG k = (3 * k + 5) % 16 := by unfold Md.mixG; rw [if_neg (by omega), if_neg (by omega), if_pos (by omega)]
  have l1 := Md.xor_lt b c hb hc
  rw [e1, i64_xor_nat b c (by omega) (by omega), i64_xor_nat _ d (by omega) (by omega)]
  exact ⟨rfl, e2⟩
theorem mixR_3 {k b c d : Nat} (hk : 48 ≤ k ∧ k < 64) (hb : b < 4294967296) (hc : c < 4294967296) (hd : d < 4294967296) :
    bits .xor .i64 (c : Int) (bits .or .i64 (b : Int) (bits .xor .i64 4294967295 (d : Int))) = (Md.mixF k b c d : Int) ∧ Md.mixG k = 7 * k % 16 := by
  have L := fun (a b : Nat) (h : b < 4294967296) => Md.and_lt a b h
  have hnb : 4294967295 - b < 4294967296 := by omega
  have hnd : 4294967295 - d < 4294967296 := by omega
  have e1 : Md.mixF k b c d = c ^^^ (b ||| (4294967295 - d)) := by unfold Md.mixF; rw [if_neg (by omega), if_neg (by omega), if_neg (by omega)]
  have e2 : Md.mixG k = 7 * k % 16 := by unfold Md.mixG; rw [if_neg (by omega), if_neg (by omega), if_neg (by omega)]
  have l1 := Md.or_lt b (4294967295 - d) hb hnd
  rw [e1, i64_not32 d hd, i64_or_nat b _ (by omega) (by omega), i64_xor_nat c _ (by omega) (by omega)]
  exact ⟨rfl, e2⟩
theorem rword_int {w : World} {sb off cap : Nat} {l : Nat → Nat} {o : Nat} {z : Int} (g : Nat) (hz : z = (g : Int)) (hg : g < 16) (hl : ∀ i, l i < 256)
    (hs : ∀ i, i < 64 → w.cell? ⟨sb, off + i, none⟩ = some (.int .u8 (l (o + i)))) :
    Calls Tryd.prog 33 #[.slice (some ⟨sb, off, none⟩) 64 cap, .int .i64 z] w fun e w' => e = .returned (.int .i64 (Md.word l o g)) ∧ ∃ n, w' = w.drewN n := by
  subst hz; exact rword_any g hg hl hs
end Go.Proofs.YthigfpaajbejdaaDoor
