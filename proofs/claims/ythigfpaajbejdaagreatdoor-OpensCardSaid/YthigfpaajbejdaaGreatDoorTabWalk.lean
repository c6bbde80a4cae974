/-
  check.Tables: CRC8, CRC16 by tables, walked.
-/
import Derived.Test.YthigfpaajbejdaaGreatDoorCrcWalk
import Derived.IntWalk
import Derived.Deep.LoopGhost
namespace Go.Proofs.YthigfpaajbejdaaGreatDoor
open Go.RowKit

/-- What stands in the tables. -/
def tabVal (i : Nat) : Value := if i < 256 then .int .u8 (Crc.go 8 7 8 i) else .int .u16 (Crc.page ((i - 256) / 256) ((i - 256) % 256))
/-- The tables stand in block tb. -/
def TabP (w : World) (tb : Nat) : Prop := ∃ cs : Array Value, Blk w tb cs 247 ∧ cs.size = 2304 ∧ ∀ i, i < 2304 → cs[i]? = some (tabVal i)
theorem TabP.cell {w : World} {tb : Nat} (h : TabP w tb) (i : Nat) (hi : i < 2304) : w.cell? ⟨tb, i, none⟩ = some (tabVal i) := by
  obtain ⟨cs, hb, _, hc⟩ := h
  rw [hb.cell i, hc i hi]
theorem TabP.one {w : World} {tb : Nat} (h : TabP w tb) (x : Nat) (hx : x < 256) : w.cell? ⟨tb, x, none⟩ = some (.int .u8 (Crc.go 8 7 8 x)) := by
  rw [h.cell x (by omega)]; unfold tabVal; rw [if_pos hx]
theorem TabP.two {w : World} {tb : Nat} (h : TabP w tb) (n x : Nat) (hn : n < 8) (hx : x < 256) : w.cell? ⟨tb, 256 + (n * 256 + x), none⟩ = some (.int .u16 (Crc.page n x)) := by
  rw [h.cell _ (by omega)]; unfold tabVal
  rw [if_neg (by omega), show 256 + (n * 256 + x) - 256 = n * 256 + x by omega, show (n * 256 + x) / 256 = n by omega, show (n * 256 + x) % 256 = x by omega]
theorem TabP.keep {w w' : World} {tb : Nat} {S : List Nat} (h : TabP w tb) (hf : Fr S w w') (hS : tb ∉ S) : TabP w' tb := by
  obtain ⟨cs, hb, h1, h2⟩ := h
  exact ⟨cs, hf.blk hb hS, h1, h2⟩

set_option maxRecDepth 100000 in
set_option maxHeartbeats 1000000 in
theorem tcrc8_any (s : ByteArray) (hs : s.size ≤ 9223372036854775806) (tb : Nat) (w : World) (ht : TabP w tb) :
    Calls Tryz.prog 92 #[.pointer (some ⟨tb, 0, none⟩), .string s] w fun e w' => e = .returned (.int .u8 (Crc.text 8 7 (txt s))) ∧ Fr [] w w' := by
  go_enter Tryz.func92, Tryz.ntmps92
  go_wp2_with fail
  go_loopw [5, 9] (fun s5 s9 wx => ∃ k : Nat, k ≤ s.size ∧ s5 = .int .u8 (crcTo 8 7 s k) ∧ s9 = .int .i64 k ∧ Fr [] w wx) (fun _ s9 _ => s.size - (intOf s9).toNat)
  case atStart => exact ⟨0, Nat.zero_le _, rfl, rfl, Fr.refl _ _⟩
  case round =>
    obtain ⟨k, hk, rfl, rfl, hF⟩ := hrel
    have hc : crcTo 8 7 s k < 256 := crcTo_lt 8 7 (by decide) (by decide) s k
    by_cases hlt : k < s.size
    · have hlt' : (k : Int) < (s.size : Int) := by omega
      have hsu := Hid.mk' (crcTo_succ 8 7 s k hlt)
      generalize crcTo 8 7 s k = c at *
      obtain ⟨x, hxe⟩ : ∃ x, x = c ^^^ s[k].toNat := ⟨_, rfl⟩
      have hx : x < 256 := by rw [hxe]; exact Nat.xor_lt_two_pow (n := 8) hc (UInt8.toNat_lt _)
      have hxor : bits .xor .u8 (c : Int) (s[k].toNat : Int) = (x : Int) := by rw [hxe]; exact u8_xor_nat c _ hc (UInt8.toNat_lt _)
      have hx0 : (0 : Int) ≤ x := by omega
      have hx1 : (x : Int) < 256 := by omega
      have hxe' := Hid.mk' hxe
      clear hxe
      have hT := ht.keep hF (by simp)
      have hcell := hT.one x hx
      go_wp2_with fail
      go_quiet (fail)
      clear hxor
      go_wp2_with fail
      go_roundw
      case rel =>
        refine ⟨k + 1, by omega, ?_, by go_num, hF.drewN' _⟩
        rw [hsu.out]
        refine congrArg (fun z : Nat => Value.int .u8 (z : Int)) ?_
        unfold Crc.byte
        rw [show s[k].toNat * 2 ^ (8 - 8) = s[k].toNat by simp, ← hxe'.out]
      case measure => simp [intOf]; omega
    · have hlt' : ¬ (k : Int) < (s.size : Int) := by omega
      go_wp2_with fail
      go_ret
      obtain rfl : k = s.size := by omega
      exact ⟨by rw [← crcTo_all]; rfl, hF⟩

/-- What is left of a text when j bytes are cut off. -/
theorem ext_get (s : ByteArray) (j i : Nat) (h : i < (s.extract j s.size).size) (h2 : j + i < s.size) : (s.extract j s.size)[i]'h = s[j + i]'h2 := by
  show (s.extract j s.size).data[i] = s.data[j + i]
  simp [ByteArray.data_extract]
theorem crcTo_eight (s : ByteArray) (k : Nat) (h : k + 8 ≤ s.size) : crcTo 16 0x8005 s (k + 8) =
    Crc.page 7 (crcTo 16 0x8005 s k / 256 ^^^ s[k].toNat) ^^^ Crc.page 6 (crcTo 16 0x8005 s k % 256 ^^^ s[k + 1].toNat) ^^^ Crc.page 5 s[k + 2].toNat ^^^ Crc.page 4 s[k + 3].toNat ^^^ Crc.page 3 s[k + 4].toNat ^^^ Crc.page 2 s[k + 5].toNat ^^^ Crc.page 1 s[k + 6].toNat ^^^ Crc.page 0 s[k + 7].toNat := by
  have hc : crcTo 16 0x8005 s k < 65536 := crcTo_lt 16 0x8005 (by decide) (by decide) s k
  have h8 := Crc.eight hc (UInt8.toNat_lt s[k]) (UInt8.toNat_lt s[k + 1]) (UInt8.toNat_lt s[k + 2]) (UInt8.toNat_lt s[k + 3]) (UInt8.toNat_lt s[k + 4]) (UInt8.toNat_lt s[k + 5]) (UInt8.toNat_lt s[k + 6]) (UInt8.toNat_lt s[k + 7])
  rw [← h8]
  simp only [List.foldl_cons, List.foldl_nil]
  rw [crcTo_succ 16 0x8005 s (k + 7) (by omega), crcTo_succ 16 0x8005 s (k + 6) (by omega), crcTo_succ 16 0x8005 s (k + 5) (by omega), crcTo_succ 16 0x8005 s (k + 4) (by omega), crcTo_succ 16 0x8005 s (k + 3) (by omega), crcTo_succ 16 0x8005 s (k + 2) (by omega), crcTo_succ 16 0x8005 s (k + 1) (by omega), crcTo_succ 16 0x8005 s k (by omega)]

theorem ext_size (s : ByteArray) (j : Nat) (h : j ≤ s.size) : (s.extract j s.size).size = s.size - j := by
  rw [ByteArray.size_extract]; omega
theorem ext_cut (s : ByteArray) (j n : Nat) (h : j + n ≤ s.size) : (s.extract j s.size).extract n (s.extract j s.size).size = s.extract (j + n) s.size := by
  rw [ext_size s j (by omega)]
  apply ByteArray.ext
  rw [ByteArray.data_extract, ByteArray.data_extract, ByteArray.data_extract, Array.extract_extract]
  congr 1; omega
/-- Eight pages in the walk's own spelling. -/
theorem eight_val {a b c d e f g h : Nat} (ha : a < 65536) (hb : b < 65536) (hc : c < 65536) (hd : d < 65536) (he : e < 65536) (hf : f < 65536) (hg : g < 65536) (hh : h < 65536) :
    bits .xor .u16 (bits .xor .u16 (bits .xor .u16 (bits .xor .u16 (bits .xor .u16 (bits .xor .u16 (bits .xor .u16 (a : Int) (b : Int)) (c : Int)) (d : Int)) (e : Int)) (f : Int)) (g : Int)) (h : Int) = ((a ^^^ b ^^^ c ^^^ d ^^^ e ^^^ f ^^^ g ^^^ h : Nat) : Int) := by
  have X : ∀ x y : Nat, x < 65536 → y < 65536 → x ^^^ y < 65536 := fun x y hx hy => Nat.xor_lt_two_pow (n := 16) hx hy
  have h1 := X _ _ ha hb
  have h2 := X _ _ h1 hc
  have h3 := X _ _ h2 hd
  have h4 := X _ _ h3 he
  have h5 := X _ _ h4 hf
  have h6 := X _ _ h5 hg
  rw [u16_xor_nat _ _ ha hb, u16_xor_nat _ _ h1 hc, u16_xor_nat _ _ h2 hd, u16_xor_nat _ _ h3 he, u16_xor_nat _ _ h4 hf, u16_xor_nat _ _ h5 hg, u16_xor_nat _ _ h6 hh]

end Go.Proofs.YthigfpaajbejdaaGreatDoor
