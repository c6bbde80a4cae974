/-
  check.CRC8, CRC16, walked.
-/
import Derived.Test.YthigfpaajbejdaaGreatDoorBase
import Derived.Test.YthigfpaajbejdaaGreatDoorCrcPlain
import Derived.Test.YthigfpaajbejdaaGreatDoorProg
import Derived.LoopTactic
namespace Go.Proofs.YthigfpaajbejdaaGreatDoor
open Go.RowKit

theorem Hid.mk' {p : Prop} (h : p) : Hid p := h

/-- A text's bytes, as numbers. -/
def txt (s : ByteArray) : List Nat := s.data.toList.map UInt8.toNat
theorem txt_length (s : ByteArray) : (txt s).length = s.size := by unfold txt; rw [List.length_map, Array.length_toList]; rfl
theorem txt_lt (s : ByteArray) : ∀ x ∈ txt s, x < 256 := by
  intro x hx
  obtain ⟨u, _, rfl⟩ := List.mem_map.1 hx
  exact UInt8.toNat_lt u
theorem txt_get (s : ByteArray) (k : Nat) (h : k < s.size) : (txt s)[k]? = some s[k].toNat := by
  have h' : k < s.data.size := h
  unfold txt
  rw [List.getElem?_map, Array.getElem?_toList, Array.getElem?_eq_getElem h']
  rfl
theorem txt_snoc (s : ByteArray) (k : Nat) (h : k < s.size) : (txt s).take (k + 1) = (txt s).take k ++ [s[k].toNat] := by
  rw [List.take_add_one, txt_get s k h]; rfl
/-- The sum of the first k bytes. -/
def crcTo (n poly : Nat) (s : ByteArray) (k : Nat) : Nat := ((txt s).take k).foldl (Crc.byte n poly) 0
theorem crcTo_succ (n poly : Nat) (s : ByteArray) (k : Nat) (h : k < s.size) : crcTo n poly s (k + 1) = Crc.byte n poly (crcTo n poly s k) s[k].toNat := by
  unfold crcTo; rw [txt_snoc s k h, List.foldl_append]; rfl
theorem crcTo_all (n poly : Nat) (s : ByteArray) : crcTo n poly s s.size = Crc.text n poly (txt s) := by
  unfold crcTo Crc.text; rw [List.take_of_length_le (by rw [txt_length]; exact Nat.le_refl _)]
theorem crcTo_lt (n poly : Nat) (hn : 8 ≤ n) (hp : poly < 2 ^ n) (s : ByteArray) (k : Nat) : crcTo n poly s k < 2 ^ n :=
  Crc.text_lt hn hp _ 0 (fun x hx => txt_lt s x (List.mem_of_mem_take hx)) (Nat.two_pow_pos n)

theorem one8 (c : Nat) (h : c < 256) : bits .xor .u8 (IntKind.u8.wrap ((c : Int) * 2)) (IntKind.u8.wrap (7 * ((c : Int) / 128))) = ((Crc.one 8 7 c : Nat) : Int) := by
  revert h; revert c; decide +kernel
theorem one8' (c : Nat) (h : c < 256) : bits .xor .u8 (IntKind.u8.wrap ((c : Int) * 2)) (7 * ((c : Int) / 128)) = ((Crc.one 8 7 c : Nat) : Int) := by
  revert h; revert c; decide +kernel

theorem go_lt8 {x : Nat} (h : x < 256) (j : Nat) : Crc.go 8 7 j x < 256 := Crc.go_lt (n := 8) (by decide) (by decide) j h
theorem go_lt16 {x : Nat} (h : x < 65536) (j : Nat) : Crc.go 16 0x8005 j x < 65536 := Crc.go_lt (n := 16) (by decide) (by decide) j h
theorem one16 (c : Nat) (h : c < 65536) : bits .xor .u16 (IntKind.u16.wrap ((c : Int) * 2)) (32773 * ((c : Int) / 32768)) = ((Crc.one 16 0x8005 c : Nat) : Int) := by
  have e1 : IntKind.u16.wrap ((c : Int) * 2) = ((2 * c % 65536 : Nat) : Int) := by rw [IntKind.wrap_u16]; omega
  have e2 : (32773 * ((c : Int) / 32768)) = ((32773 * (c / 32768) : Nat) : Int) := by omega
  rw [e1, e2]
  exact u16_xor_nat _ _ (Nat.mod_lt _ (by decide)) (by omega)
theorem one16' (c : Nat) (h : c < 65536) : bits .xor .u16 (IntKind.u16.wrap ((c : Int) * 2)) (IntKind.u16.wrap (32773 * ((c : Int) / 32768))) = ((Crc.one 16 0x8005 c : Nat) : Int) := by
  rw [show IntKind.u16.wrap (32773 * ((c : Int) / 32768)) = 32773 * ((c : Int) / 32768) by rw [IntKind.wrap_u16]; omega]
  exact one16 c h
theorem xor16 (c b : Nat) (hc : c < 65536) (hb : b < 256) : bits .xor .u16 (c : Int) (IntKind.u16.wrap (IntKind.u16.wrap (b : Int) * 256)) = ((c ^^^ b * 256 : Nat) : Int) := by
  have e : IntKind.u16.wrap (IntKind.u16.wrap (b : Int) * 256) = ((b * 256 : Nat) : Int) := by rw [IntKind.wrap_u16, IntKind.wrap_u16]; omega
  rw [e]
  exact u16_xor_nat _ _ hc (by omega)
theorem xor16' (c b : Nat) (hc : c < 65536) (hb : b < 256) : bits .xor .u16 (c : Int) ((b : Int) * 256) = ((c ^^^ b * 256 : Nat) : Int) := by
  rw [show ((b : Int) * 256) = ((b * 256 : Nat) : Int) by omega]
  exact u16_xor_nat _ _ hc (by omega)

set_option maxRecDepth 100000 in
set_option maxHeartbeats 1000000 in
theorem crc8_any (s : ByteArray) (hs : s.size ≤ 9223372036854775806) (w : World) :
    Calls Tryz.prog 95 #[.string s] w fun e w' => e = .returned (.int .u8 (Crc.text 8 7 (txt s))) ∧ w = w' := by
  go_enter Tryz.func95, Tryz.ntmps95
  go_wp2_with fail
  go_loop [3, 7] (fun s3 s7 => ∃ k : Nat, k ≤ s.size ∧ s3 = .int .u8 (crcTo 8 7 s k) ∧ s7 = .int .i64 k) (fun _ s7 => s.size - (intOf s7).toNat)
  case atStart => exact ⟨0, Nat.zero_le _, rfl, rfl⟩
  case round =>
    obtain ⟨k, hk, rfl, rfl⟩ := hrel
    have hc : crcTo 8 7 s k < 256 := crcTo_lt 8 7 (by decide) (by decide) s k
    by_cases hlt : k < s.size
    · have hlt' : (k : Int) < (s.size : Int) := by omega
      have hsu := Hid.mk' (crcTo_succ 8 7 s k hlt)
      generalize crcTo 8 7 s k = c at *
      obtain ⟨b, hbe⟩ : ∃ b, b = s[k].toNat := ⟨_, rfl⟩
      have hb : b < 256 := by rw [hbe]; exact UInt8.toNat_lt _
      have hbe' := Hid.mk' hbe
      clear hbe
      obtain ⟨x, hxe⟩ : ∃ x, x = c ^^^ b := ⟨_, rfl⟩
      have hx : x < 256 := by rw [hxe]; exact Nat.xor_lt_two_pow (n := 8) hc hb
      have hxe' := Hid.mk' hxe
      clear hxe
      go_wp2_with fail
      rw [← hbe'.out]
      go_loop [3, 15] (fun s3 sj => ∃ j : Nat, j ≤ 8 ∧ s3 = .int .u8 (Crc.go 8 7 j x) ∧ sj = .int .i64 j) (fun _ sj => 8 - (intOf sj).toNat)
      case atStart => exact ⟨0, Nat.zero_le _, by rw [hxe'.out]; exact congrArg (Value.int .u8) (u8_xor_nat c b hc hb), rfl⟩
      case round =>
        obtain ⟨j, hj, rfl, rfl⟩ := hrel
        have hgo := go_lt8 hx j
        by_cases hlj : j < 8
        · go_wp2_with fail
          go_round
          case rel => exact ⟨j + 1, by omega, by first | exact congrArg (Value.int .u8) (one8' _ (go_lt8 hx j)) | exact congrArg (Value.int .u8) (one8 _ (go_lt8 hx j)), by go_num⟩
          case measure => simp [intOf]; omega
        · obtain rfl : j = 8 := by omega
          go_wp2_with fail
          go_round
          case rel =>
            refine ⟨k + 1, by omega, ?_, by go_num⟩
            rw [hsu.out, ← hbe'.out, hxe'.out]
            refine congrArg (fun z : Nat => Value.int .u8 (z : Int)) ?_
            show _ = Crc.byte 8 7 c b
            unfold Crc.byte
            rw [show b * 2 ^ (8 - 8) = b by simp]
          case measure => simp [intOf]; omega
    · have hlt' : ¬ (k : Int) < (s.size : Int) := by omega
      go_wp2_with fail
      go_ret
      obtain rfl : k = s.size := by omega
      exact ⟨by rw [← crcTo_all]; rfl, rfl⟩

set_option maxRecDepth 100000 in
set_option maxHeartbeats 1000000 in
theorem crc16_any (s : ByteArray) (hs : s.size ≤ 9223372036854775806) (w : World) :
    Calls Tryz.prog 96 #[.string s] w fun e w' => e = .returned (.int .u16 (Crc.text 16 0x8005 (txt s))) ∧ w = w' := by
  go_enter Tryz.func96, Tryz.ntmps96
  go_wp2_with fail
  go_loop [3, 7] (fun s3 s7 => ∃ k : Nat, k ≤ s.size ∧ s3 = .int .u16 (crcTo 16 0x8005 s k) ∧ s7 = .int .i64 k) (fun _ s7 => s.size - (intOf s7).toNat)
  case atStart => exact ⟨0, Nat.zero_le _, rfl, rfl⟩
  case round =>
    obtain ⟨k, hk, rfl, rfl⟩ := hrel
    have hc : crcTo 16 0x8005 s k < 65536 := crcTo_lt 16 0x8005 (by decide) (by decide) s k
    by_cases hlt : k < s.size
    · have hlt' : (k : Int) < (s.size : Int) := by omega
      have hsu := Hid.mk' (crcTo_succ 16 0x8005 s k hlt)
      generalize crcTo 16 0x8005 s k = c at *
      obtain ⟨b, hbe⟩ : ∃ b, b = s[k].toNat := ⟨_, rfl⟩
      have hb : b < 256 := by rw [hbe]; exact UInt8.toNat_lt _
      have hbe' := Hid.mk' hbe
      clear hbe
      obtain ⟨x, hxe⟩ : ∃ x, x = c ^^^ b * 256 := ⟨_, rfl⟩
      have hx : x < 65536 := by rw [hxe]; exact Nat.xor_lt_two_pow (n := 16) hc (show b * 256 < 65536 by omega)
      have hxe' := Hid.mk' hxe
      clear hxe
      go_wp2_with fail
      rw [← hbe'.out]
      go_loop [3, 17] (fun s3 sj => ∃ j : Nat, j ≤ 8 ∧ s3 = .int .u16 (Crc.go 16 0x8005 j x) ∧ sj = .int .i64 j) (fun _ sj => 8 - (intOf sj).toNat)
      case atStart => exact ⟨0, Nat.zero_le _, by rw [hxe'.out]; first | exact congrArg (Value.int .u16) (xor16' c b hc hb) | exact congrArg (Value.int .u16) (xor16 c b hc hb), rfl⟩
      case round =>
        obtain ⟨j, hj, rfl, rfl⟩ := hrel
        have hgo := go_lt16 hx j
        by_cases hlj : j < 8
        · go_wp2_with fail
          go_round
          case rel => exact ⟨j + 1, by omega, by first | exact congrArg (Value.int .u16) (one16 _ (go_lt16 hx j)) | exact congrArg (Value.int .u16) (one16' _ (go_lt16 hx j)), by go_num⟩
          case measure => simp [intOf]; omega
        · obtain rfl : j = 8 := by omega
          go_wp2_with fail
          go_round
          case rel =>
            refine ⟨k + 1, by omega, ?_, by go_num⟩
            rw [hsu.out, ← hbe'.out, hxe'.out]
            refine congrArg (fun z : Nat => Value.int .u16 (z : Int)) ?_
            show _ = Crc.byte 16 0x8005 c b
            unfold Crc.byte
            rfl
          case measure => simp [intOf]; omega
    · have hlt' : ¬ (k : Int) < (s.size : Int) := by omega
      go_wp2_with fail
      go_ret
      obtain rfl : k = s.size := by omega
      exact ⟨by rw [← crcTo_all]; rfl, rfl⟩

end Go.Proofs.YthigfpaajbejdaaGreatDoor
