/-
  flacpairref.CRC, walked; bits of numbers of 64 bits that are not negative.
-/
import Derived.Test.YthigfpaajbejdaaDoorCrcWalk
import Derived.Deep.LoopGhost
import Derived.IntWalk
namespace Go.Proofs.YthigfpaajbejdaaDoor
open Go.RowKit

theorem i64_small (x : Nat) (h : x < 9223372036854775808) : IntKind.i64.wrap (x : Int) = (x : Int) := IntWalk.i64_in _ (by omega)
theorem i64_and_nat (a b : Nat) (ha : a < 9223372036854775808) (hb : b < 9223372036854775808) : bits .and .i64 (a : Int) (b : Int) = ((a &&& b : Nat) : Int) := by
  have hx : a &&& b < 2 ^ 63 := Nat.and_lt_two_pow _ (by omega)
  show IntKind.i64.wrap ((BitVec.ofInt 64 (a : Int) &&& BitVec.ofInt 64 (b : Int)).toNat : Int) = _
  rw [BitVec.toNat_and, ofInt_u64 a (by omega), ofInt_u64 b (by omega)]
  exact i64_small _ (by omega)
theorem i64_or_nat (a b : Nat) (ha : a < 9223372036854775808) (hb : b < 9223372036854775808) : bits .or .i64 (a : Int) (b : Int) = ((a ||| b : Nat) : Int) := by
  have hx : a ||| b < 2 ^ 63 := Nat.or_lt_two_pow (by omega) (by omega)
  show IntKind.i64.wrap ((BitVec.ofInt 64 (a : Int) ||| BitVec.ofInt 64 (b : Int)).toNat : Int) = _
  rw [BitVec.toNat_or, ofInt_u64 a (by omega), ofInt_u64 b (by omega)]
  exact i64_small _ (by omega)
theorem i64_xor_nat (a b : Nat) (ha : a < 9223372036854775808) (hb : b < 9223372036854775808) : bits .xor .i64 (a : Int) (b : Int) = ((a ^^^ b : Nat) : Int) := by
  have hx : a ^^^ b < 2 ^ 63 := Nat.xor_lt_two_pow (by omega) (by omega)
  show IntKind.i64.wrap ((BitVec.ofInt 64 (a : Int) ^^^ BitVec.ofInt 64 (b : Int)).toNat : Int) = _
  rw [BitVec.toNat_xor, ofInt_u64 a (by omega), ofInt_u64 b (by omega)]
  exact i64_small _ (by omega)
theorem div_pow_int (x k : Nat) : ((x : Int) / 2 ^ k) = ((x / 2 ^ k : Nat) : Int) := by
  rw [show ((2 : Int) ^ k) = ((2 ^ k : Nat) : Int) by simp]; rfl

set_option maxRecDepth 100000 in
set_option maxHeartbeats 1000000 in
theorem rcrc8_any (s : ByteArray) (hs : s.size ≤ 1048576) (w : World) :
    Calls Tryd.prog 7 #[.string s, .int .i64 8, .int .i64 7] w fun e w' => e = .returned (.int .i64 (Crc.text 8 7 (txt s))) ∧ Fr [] w w' := by
  go_enter Tryd.func7, Tryd.ntmps7
  go_wp2_with fail
  go_loopg [7, 8] s.size (fun g s7 s8 wx => ∃ k : Nat, g = s.size - k ∧ k ≤ s.size ∧ s7 = .int .i64 (crcTo 8 7 s k) ∧ s8 = .int .i64 k ∧ Fr [] w wx)
  case atStart => exact ⟨0, rfl, Nat.zero_le _, rfl, rfl, Fr.refl _ _⟩
  case round =>
    obtain ⟨k, hg, hk, rfl, rfl, hF⟩ := hrel
    have hG := Hid.mk' hg
    clear hg
    have hc0 : crcTo 8 7 s k < 256 := crcTo_lt 8 7 (by decide) (by decide) s k
    by_cases hlt : k < s.size
    · have hlt' : (k : Int) < (s.size : Int) := by omega
      have hk0 : (0 : Int) ≤ (k : Int) := by omega
      have hsu := Hid.mk' (crcTo_succ 8 7 s k hlt)
      generalize crcTo 8 7 s k = c0 at *
      obtain ⟨b, hbe⟩ : ∃ b, b = s[k].toNat := ⟨_, rfl⟩
      have hb : b < 256 := by rw [hbe]; exact UInt8.toNat_lt _
      have hbe' : Hid (b = s[k].toNat) := hbe
      have hbr : ∀ h : k < s.size, (s[k]'h).toNat = b := fun _ => hbe.symm
      clear hbe
      go_wp2_with fail
      obtain ⟨wo, rfl⟩ : ∃ wo : World, wo = wr := ⟨_, rfl⟩
      go_loopg [7, 9] 8 (fun g s7 s9 wx => ∃ j : Nat, g = 8 - j ∧ j ≤ 8 ∧ s7 = .int .i64 (Crc.bits 8 7 c0 b j) ∧ s9 = .int .i64 (7 - (j : Int)) ∧ Fr [] w wx)
      case atStart => exact ⟨0, rfl, by decide, rfl, rfl, hF⟩
      case round =>
        obtain ⟨j, hg2, hj, rfl, rfl, hF2⟩ := hrel
        have hG2 := Hid.mk' hg2
        clear hg2
        have hc : Crc.bits 8 7 c0 b j < 256 := Crc.bits_lt (n := 8) (by decide) hc0 j
        by_cases hlj : j < 8
        · have hnx : Hid (Crc.bits 8 7 c0 b (j + 1) = Crc.bit 8 7 (Crc.bits 8 7 c0 b j) (b / 2 ^ (7 - j) % 2)) := rfl
          generalize Crc.bits 8 7 c0 b j = c at *
          obtain ⟨kk, hkk⟩ : ∃ kk : Nat, kk = 7 - j := ⟨_, rfl⟩
          have hjk : (7 : Int) - (j : Int) = (kk : Int) := by omega
          rw [← hkk] at hnx
          have hkk' := Hid.mk' hkk
          clear hkk
          obtain ⟨bt, hbt⟩ : ∃ bt, bt = b / 2 ^ kk % 2 := ⟨_, rfl⟩
          obtain ⟨y, hy⟩ : ∃ y, y = c / 128 := ⟨_, rfl⟩
          have hbt2 : bt < 2 := by rw [hbt]; exact Nat.mod_lt _ (by decide)
          have hy2 : y < 2 := by omega
          have h1 : bits .and .i64 ((b : Int) / 2 ^ kk) 1 = (bt : Int) := by
            rw [div_pow_int]
            have := Nat.div_le_self b (2 ^ kk)
            refine (i64_and_nat _ 1 (by omega) (by decide)).trans ?_
            rw [nat_mask1, hbt]
          have h2 : bits .and .i64 ((c : Int) / 128) 1 = (y : Int) := by
            rw [show ((c : Int) / 128) = ((y : Nat) : Int) by omega]
            refine (i64_and_nat y 1 (by omega) (by decide)).trans ?_
            rw [nat_mask1, Nat.mod_eq_of_lt hy2]
          have h4 : bits .and .i64 ((c : Int) * 2) 255 = ((2 * c % 256 : Nat) : Int) := by
            rw [show ((c : Int) * 2) = ((2 * c : Nat) : Int) by omega]
            refine (i64_and_nat _ 255 (by omega) (by decide)).trans ?_
            exact congrArg Nat.cast (Nat.and_two_pow_sub_one_eq_mod (2 * c) 8)
          obtain ⟨d, hd⟩ : ∃ d, d = 2 * c % 256 := ⟨_, rfl⟩
          have hdl : d < 256 := by omega
          rw [← hd] at h4
          have h5 : bits .xor .i64 (d : Int) 7 = ((d ^^^ 7 : Nat) : Int) := i64_xor_nat d 7 (by omega) (by decide)
          have hfin : Hid (Crc.bits 8 7 c0 b (j + 1) = if bt ^^^ y = 1 then d ^^^ 7 else d) := by
            unfold Hid
            rw [hnx.out]
            unfold Crc.bit
            rw [← hbt, show c / 2 ^ (8 - 1) = y by rw [hy], Nat.mod_eq_of_lt hy2, show 2 * c % 2 ^ 8 = d from hd.symm]
          have hk7 : Hid (kk ≤ 7) := by have := hkk'.out; unfold Hid; omega
          clear hbt hy hd hnx
          have h3 : bits .xor .i64 (bt : Int) (y : Int) = ((bt ^^^ y : Nat) : Int) := i64_xor_nat bt y (by omega) (by omega)
          by_cases hz : bt ^^^ y = 1
          · rw [hz] at h3
            rw [hz, if_pos rfl] at hfin
            clear hz
            go_wp2_with fail
            go_quiet (fail)
            go_wp2_with fail
            go_roundg (8 - (j + 1))
            case measure => have := hG2.out; omega
            case rel =>
              refine ⟨j + 1, rfl, by omega, congrArg (Value.int .i64) ?_, congrArg (Value.int .i64) ?_, hF2.drewN' _⟩
              · rw [hfin.out, ← h5]
              · have := hkk'.out; omega
          · have hz0 : bt ^^^ y = 0 := by
              have := Nat.xor_lt_two_pow (n := 1) (by omega : bt < 2 ^ 1) (by omega : y < 2 ^ 1)
              omega
            rw [hz0] at h3
            rw [if_neg hz] at hfin
            clear hz hz0
            go_wp2_with fail
            go_quiet (fail)
            go_wp2_with fail
            go_roundg (8 - (j + 1))
            case measure => have := hG2.out; omega
            case rel =>
              refine ⟨j + 1, rfl, by omega, congrArg (Value.int .i64) ?_, congrArg (Value.int .i64) ?_, hF2.drewN' _⟩
              · rw [hfin.out]
              · have := hkk'.out; omega
        · obtain rfl : j = 8 := by omega
          go_wp2_with fail
          go_roundg (s.size - (k + 1))
          case measure => have := hG.out; omega
          case rel =>
            refine ⟨k + 1, rfl, by omega, congrArg (Value.int .i64) ?_, rfl, hF2⟩
            rw [hsu.out, hbr hlt]
            exact congrArg Nat.cast (Crc.byte_eq (n := 8) (poly := 7) (by decide) (by decide) hc0 hb)
    · obtain rfl : k = s.size := by omega
      go_wp2_with fail
      go_ret
      exact ⟨by rw [← crcTo_all]; rfl, hF⟩

set_option maxRecDepth 100000 in
set_option maxHeartbeats 1000000 in
theorem rcrc16_any (s : ByteArray) (hs : s.size ≤ 1048576) (w : World) :
    Calls Tryd.prog 7 #[.string s, .int .i64 16, .int .i64 32773] w fun e w' => e = .returned (.int .i64 (Crc.text 16 0x8005 (txt s))) ∧ Fr [] w w' := by
  go_enter Tryd.func7, Tryd.ntmps7
  go_wp2_with fail
  go_loopg [7, 8] s.size (fun g s7 s8 wx => ∃ k : Nat, g = s.size - k ∧ k ≤ s.size ∧ s7 = .int .i64 (crcTo 16 0x8005 s k) ∧ s8 = .int .i64 k ∧ Fr [] w wx)
  case atStart => exact ⟨0, rfl, Nat.zero_le _, rfl, rfl, Fr.refl _ _⟩
  case round =>
    obtain ⟨k, hg, hk, rfl, rfl, hF⟩ := hrel
    have hG := Hid.mk' hg
    clear hg
    have hc0 : crcTo 16 0x8005 s k < 65536 := crcTo_lt 16 0x8005 (by decide) (by decide) s k
    by_cases hlt : k < s.size
    · have hlt' : (k : Int) < (s.size : Int) := by omega
      have hk0 : (0 : Int) ≤ (k : Int) := by omega
      have hsu := Hid.mk' (crcTo_succ 16 0x8005 s k hlt)
      generalize crcTo 16 0x8005 s k = c0 at *
      obtain ⟨b, hbe⟩ : ∃ b, b = s[k].toNat := ⟨_, rfl⟩
      have hb : b < 256 := by rw [hbe]; exact UInt8.toNat_lt _
      have hbe' : Hid (b = s[k].toNat) := hbe
      have hbr : ∀ h : k < s.size, (s[k]'h).toNat = b := fun _ => hbe.symm
      clear hbe
      go_wp2_with fail
      obtain ⟨wo, rfl⟩ : ∃ wo : World, wo = wr := ⟨_, rfl⟩
      go_loopg [7, 9] 8 (fun g s7 s9 wx => ∃ j : Nat, g = 8 - j ∧ j ≤ 8 ∧ s7 = .int .i64 (Crc.bits 16 0x8005 c0 b j) ∧ s9 = .int .i64 (7 - (j : Int)) ∧ Fr [] w wx)
      case atStart => exact ⟨0, rfl, by decide, rfl, rfl, hF⟩
      case round =>
        obtain ⟨j, hg2, hj, rfl, rfl, hF2⟩ := hrel
        have hG2 := Hid.mk' hg2
        clear hg2
        have hc : Crc.bits 16 0x8005 c0 b j < 65536 := Crc.bits_lt (n := 16) (by decide) hc0 j
        by_cases hlj : j < 8
        · have hnx : Hid (Crc.bits 16 0x8005 c0 b (j + 1) = Crc.bit 16 0x8005 (Crc.bits 16 0x8005 c0 b j) (b / 2 ^ (7 - j) % 2)) := rfl
          generalize Crc.bits 16 0x8005 c0 b j = c at *
          obtain ⟨kk, hkk⟩ : ∃ kk : Nat, kk = 7 - j := ⟨_, rfl⟩
          have hjk : (7 : Int) - (j : Int) = (kk : Int) := by omega
          rw [← hkk] at hnx
          have hkk' := Hid.mk' hkk
          clear hkk
          obtain ⟨bt, hbt⟩ : ∃ bt, bt = b / 2 ^ kk % 2 := ⟨_, rfl⟩
          obtain ⟨y, hy⟩ : ∃ y, y = c / 32768 := ⟨_, rfl⟩
          have hbt2 : bt < 2 := by rw [hbt]; exact Nat.mod_lt _ (by decide)
          have hy2 : y < 2 := by omega
          have h1 : bits .and .i64 ((b : Int) / 2 ^ kk) 1 = (bt : Int) := by
            rw [div_pow_int]
            have := Nat.div_le_self b (2 ^ kk)
            refine (i64_and_nat _ 1 (by omega) (by decide)).trans ?_
            rw [nat_mask1, hbt]
          have h2 : bits .and .i64 ((c : Int) / 32768) 1 = (y : Int) := by
            rw [show ((c : Int) / 32768) = ((y : Nat) : Int) by omega]
            refine (i64_and_nat y 1 (by omega) (by decide)).trans ?_
            rw [nat_mask1, Nat.mod_eq_of_lt hy2]
          have h4 : bits .and .i64 ((c : Int) * 2) 65535 = ((2 * c % 65536 : Nat) : Int) := by
            rw [show ((c : Int) * 2) = ((2 * c : Nat) : Int) by omega]
            refine (i64_and_nat _ 65535 (by omega) (by decide)).trans ?_
            exact congrArg Nat.cast (Nat.and_two_pow_sub_one_eq_mod (2 * c) 16)
          obtain ⟨d, hd⟩ : ∃ d, d = 2 * c % 65536 := ⟨_, rfl⟩
          have hdl : d < 65536 := by omega
          rw [← hd] at h4
          have h5 : bits .xor .i64 (d : Int) 32773 = ((d ^^^ 32773 : Nat) : Int) := i64_xor_nat d 32773 (by omega) (by decide)
          have hfin : Hid (Crc.bits 16 0x8005 c0 b (j + 1) = if bt ^^^ y = 1 then d ^^^ 32773 else d) := by
            unfold Hid
            rw [hnx.out]
            unfold Crc.bit
            rw [← hbt, show c / 2 ^ (16 - 1) = y by rw [hy], Nat.mod_eq_of_lt hy2, show 2 * c % 2 ^ 16 = d from hd.symm]
          have hk7 : Hid (kk ≤ 7) := by have := hkk'.out; unfold Hid; omega
          clear hbt hy hd hnx
          have h3 : bits .xor .i64 (bt : Int) (y : Int) = ((bt ^^^ y : Nat) : Int) := i64_xor_nat bt y (by omega) (by omega)
          by_cases hz : bt ^^^ y = 1
          · rw [hz] at h3
            rw [hz, if_pos rfl] at hfin
            clear hz
            go_wp2_with fail
            go_quiet (fail)
            go_wp2_with fail
            go_roundg (8 - (j + 1))
            case measure => have := hG2.out; omega
            case rel =>
              refine ⟨j + 1, rfl, by omega, congrArg (Value.int .i64) ?_, congrArg (Value.int .i64) ?_, hF2.drewN' _⟩
              · rw [hfin.out, ← h5]
              · have := hkk'.out; omega
          · have hz0 : bt ^^^ y = 0 := by
              have := Nat.xor_lt_two_pow (n := 1) (by omega : bt < 2 ^ 1) (by omega : y < 2 ^ 1)
              omega
            rw [hz0] at h3
            rw [if_neg hz] at hfin
            clear hz hz0
            go_wp2_with fail
            go_quiet (fail)
            go_wp2_with fail
            go_roundg (8 - (j + 1))
            case measure => have := hG2.out; omega
            case rel =>
              refine ⟨j + 1, rfl, by omega, congrArg (Value.int .i64) ?_, congrArg (Value.int .i64) ?_, hF2.drewN' _⟩
              · rw [hfin.out]
              · have := hkk'.out; omega
        · obtain rfl : j = 8 := by omega
          go_wp2_with fail
          go_roundg (s.size - (k + 1))
          case measure => have := hG.out; omega
          case rel =>
            refine ⟨k + 1, rfl, by omega, congrArg (Value.int .i64) ?_, rfl, hF2⟩
            rw [hsu.out, hbr hlt]
            exact congrArg Nat.cast (Crc.byte_eq (n := 16) (poly := 32773) (by decide) (by decide) hc0 hb)
    · obtain rfl : k = s.size := by omega
      go_wp2_with fail
      go_ret
      exact ⟨by rw [← crcTo_all]; rfl, hF⟩

end Go.Proofs.YthigfpaajbejdaaDoor
