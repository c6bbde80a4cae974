/-
  check.Tables.CRC16, walked.
-/
import Derived.Test.YthigfpaajbejdaaDoorTabWalk
namespace Go.Proofs.YthigfpaajbejdaaDoor
open Go.RowKit

set_option maxRecDepth 100000 in
set_option maxHeartbeats 4000000 in
theorem tcrc16_any (s : ByteArray) (hs : s.size ≤ 9223372036854775806) (tb : Nat) (w : World) (ht : TabP w tb) :
    Calls Tryd.prog 40 #[.pointer (some ⟨tb, 0, none⟩), .string s] w fun e w' => e = .returned (.int .u16 (Crc.text 16 0x8005 (txt s))) ∧ Fr [] w w' := by
  go_enter Tryd.func40, Tryd.ntmps40
  go_wp2_with fail
  go_loopg [1, 5] s.size (fun g s1 s5 wx => ∃ (j : Nat) (t : ByteArray), g = s.size - j ∧ j ≤ s.size ∧ Hid (t = s.extract j s.size) ∧ s1 = .string t ∧ s5 = .int .u16 (crcTo 16 0x8005 s j) ∧ Fr [] w wx)
  case atStart => exact ⟨0, s, rfl, Nat.zero_le _, (by unfold Hid; apply ByteArray.ext; simp [ByteArray.data_extract]), rfl, rfl, Fr.refl _ _⟩
  case round =>
    obtain ⟨j, t, hg, hj, hte, rfl, rfl, hF⟩ := hrel
    have hG := Hid.mk' hg
    clear hg
    have htz : Hid (t.size = s.size - j) := by unfold Hid; rw [hte.out]; exact ext_size s j hj
    have htm : t.size ≤ 9223372036854775806 := by have := htz.out; omega
    have hc : crcTo 16 0x8005 s j < 65536 := crcTo_lt 16 0x8005 (by decide) (by decide) s j
    have hT := ht.keep hF (by simp)
    by_cases h8 : 8 ≤ t.size
    · have h8' : (8 : Int) ≤ (t.size : Int) := by omega
      have hj8 : j + 8 ≤ s.size := by have := htz.out; omega
      have hst := Hid.mk' (crcTo_eight s j hj8)
      generalize crcTo 16 0x8005 s j = c at *
      have hget : ∀ i (hi : i < 8), t[i]'(by omega) = s[j + i]'(by omega) := by
        intro i hi
        have := hte.out
        subst this
        exact ext_get s j i _ _
      have hget' := Hid.mk' hget
      obtain ⟨x0, hx0e⟩ : ∃ x, x = c / 256 ^^^ t[0].toNat := ⟨_, rfl⟩
      obtain ⟨x1, hx1e⟩ : ∃ x, x = c % 256 ^^^ t[1].toNat := ⟨_, rfl⟩
      have hx0 : x0 < 256 := by rw [hx0e]; exact Nat.xor_lt_two_pow (n := 8) (by omega) (UInt8.toNat_lt _)
      have hx1 : x1 < 256 := by rw [hx1e]; exact Nat.xor_lt_two_pow (n := 8) (by omega) (UInt8.toNat_lt _)
      have k0 : bits .xor .u8 ((c : Int) / 256) (t[0].toNat : Int) = (x0 : Int) := by
        rw [hx0e, show ((c : Int) / 256) = ((c / 256 : Nat) : Int) by omega]; exact u8_xor_nat _ _ (by omega) (UInt8.toNat_lt _)
      have k1 : bits .xor .u8 ((c : Int) % 256) (t[1].toNat : Int) = (x1 : Int) := by
        rw [hx1e, show ((c : Int) % 256) = ((c % 256 : Nat) : Int) by omega]; exact u8_xor_nat _ _ (by omega) (UInt8.toNat_lt _)
      have kw0 : IntKind.u8.wrap ((c : Int) / 256) = (c : Int) / 256 := by rw [IntKind.wrap_u8']; omega
      have kw1 : IntKind.u8.wrap (c : Int) = (c : Int) % 256 := by rw [IntKind.wrap_u8']
      have hx0' := Hid.mk' hx0e
      have hx1' := Hid.mk' hx1e
      clear hx0e hx1e hget
      have hb : ∀ i (hi : i < t.size), t[i].toNat < 256 := fun i hi => UInt8.toNat_lt _
      have c7 := hT.two 7 x0 (by decide) hx0
      have c6 := hT.two 6 x1 (by decide) hx1
      have c5 := hT.two 5 t[2].toNat (by decide) (UInt8.toNat_lt _)
      have c4 := hT.two 4 t[3].toNat (by decide) (UInt8.toNat_lt _)
      have c3 := hT.two 3 t[4].toNat (by decide) (UInt8.toNat_lt _)
      have c2 := hT.two 2 t[5].toNat (by decide) (UInt8.toNat_lt _)
      have c1 := hT.two 1 t[6].toNat (by decide) (UInt8.toNat_lt _)
      have c0 := hT.two 0 t[7].toNat (by decide) (UInt8.toNat_lt _)
      simp only [Nat.reduceMul, ← Nat.add_assoc, Nat.reduceAdd, Nat.zero_add, Nat.add_zero] at c7 c6 c5 c4 c3 c2 c1 c0
      have b2 : (t[2].toNat : Int) < 256 := by have := hb 2 (by omega); omega
      have b3 : (t[3].toNat : Int) < 256 := by have := hb 3 (by omega); omega
      have b4 : (t[4].toNat : Int) < 256 := by have := hb 4 (by omega); omega
      have b5 : (t[5].toNat : Int) < 256 := by have := hb 5 (by omega); omega
      have b6 : (t[6].toNat : Int) < 256 := by have := hb 6 (by omega); omega
      have b7 : (t[7].toNat : Int) < 256 := by have := hb 7 (by omega); omega
      have hx0i : (x0 : Int) < 256 := by omega
      have hx1i : (x1 : Int) < 256 := by omega
      have z0 : 0 < t.size := by omega
      have z1 : (1 : Int) < (t.size : Int) := by omega
      have y1 : 1 < t.size := by omega
      have z2 : (2 : Int) < (t.size : Int) := by omega
      have y2 : 2 < t.size := by omega
      have z3 : (3 : Int) < (t.size : Int) := by omega
      have y3 : 3 < t.size := by omega
      have z4 : (4 : Int) < (t.size : Int) := by omega
      have y4 : 4 < t.size := by omega
      have z5 : (5 : Int) < (t.size : Int) := by omega
      have y5 : 5 < t.size := by omega
      have z6 : (6 : Int) < (t.size : Int) := by omega
      have y6 : 6 < t.size := by omega
      have z7 : (7 : Int) < (t.size : Int) := by omega
      have y7 : 7 < t.size := by omega
      clear hb
      go_wp2_with fail
      go_quiet (fail)
      go_wp2_with fail
      go_roundg (s.size - (j + 8))
      case measure => have := hG.out; omega
      case rel =>
        refine ⟨j + 8, t.extract 8 t.size, rfl, by omega, ?_, rfl, ?_, hF.drewN' _⟩
        · unfold Hid
          rw [hte.out]; exact ext_cut s j 8 hj8
        · have L : ∀ n k, k < 256 → Crc.page n k < 65536 := fun n k hk => Crc.page_lt n k hk
          rw [hst.out, eight_val (L 7 x0 hx0) (L 6 x1 hx1) (L 5 _ (UInt8.toNat_lt _)) (L 4 _ (UInt8.toNat_lt _)) (L 3 _ (UInt8.toNat_lt _)) (L 2 _ (UInt8.toNat_lt _)) (L 1 _ (UInt8.toNat_lt _)) (L 0 _ (UInt8.toNat_lt _))]
          rw [hx0'.out, hx1'.out]
          have g := hget'.out
          rw [g 0 (by decide), g 1 (by decide), g 2 (by decide), g 3 (by decide), g 4 (by decide), g 5 (by decide), g 6 (by decide), g 7 (by decide)]
          rfl
    · have h8' : ¬ (8 : Int) ≤ (t.size : Int) := by omega
      have hF0 := hF
      clear hT hc hF
      go_wp2_with fail
      go_loopg [5, 92] t.size (fun g s5 s92 wx => ∃ i : Nat, g = t.size - i ∧ i ≤ t.size ∧ s5 = .int .u16 (crcTo 16 0x8005 s (j + i)) ∧ s92 = .int .i64 i ∧ Fr [] w wx)
      case atStart => exact ⟨0, rfl, Nat.zero_le _, rfl, rfl, hF0⟩
      case round =>
        obtain ⟨i, hg2, hi, rfl, rfl, hF⟩ := hrel
        have hG2 := Hid.mk' hg2
        clear hg2
        have hc : crcTo 16 0x8005 s (j + i) < 65536 := crcTo_lt 16 0x8005 (by decide) (by decide) s (j + i)
        have hT := ht.keep hF (by simp)
        by_cases hlt : i < t.size
        · have hlt' : (i : Int) < (t.size : Int) := by omega
          have hi0 : (0 : Int) ≤ (i : Int) := by omega
          have hji : j + i < s.size := by have := htz.out; omega
          have hsu := Hid.mk' (crcTo_succ 16 0x8005 s (j + i) hji)
          have hget : Hid (t[i] = s[j + i]) := by
            have := hte.out
            subst this
            exact ext_get s j i _ _
          generalize crcTo 16 0x8005 s (j + i) = c at *
          obtain ⟨x0, hx0e⟩ : ∃ x, x = c / 256 ^^^ t[i].toNat := ⟨_, rfl⟩
          have hx0 : x0 < 256 := by rw [hx0e]; exact Nat.xor_lt_two_pow (n := 8) (by omega) (UInt8.toNat_lt _)
          have k0 : bits .xor .u8 ((c : Int) / 256) (t[i].toNat : Int) = (x0 : Int) := by
            rw [hx0e, show ((c : Int) / 256) = ((c / 256 : Nat) : Int) by omega]; exact u8_xor_nat _ _ (by omega) (UInt8.toNat_lt _)
          have kw0 : IntKind.u8.wrap ((c : Int) / 256) = (c : Int) / 256 := by rw [IntKind.wrap_u8']; omega
          have hx0' := Hid.mk' hx0e
          clear hx0e
          have c0 := hT.two 0 x0 (by decide) hx0
          simp only [Nat.zero_mul, Nat.zero_add] at c0
          have hx0i : (x0 : Int) < 256 := by omega
          go_wp2_with fail
          go_quiet (fail)
          go_wp2_with fail
          go_roundg (t.size - (i + 1))
          case measure => have := hG2.out; omega
          case rel =>
            refine ⟨i + 1, rfl, by omega, ?_, by go_num, hF.drewN' _⟩
            rw [show j + (i + 1) = j + i + 1 by omega, hsu.out, Crc.byte16 hc (UInt8.toNat_lt _)]
            rw [show IntKind.u16.wrap ((c : Int) * 256) = ((c * 256 % 65536 : Nat) : Int) by rw [IntKind.wrap_u16]; omega]
            rw [u16_xor_nat _ _ (Nat.mod_lt _ (by decide)) (Crc.page_lt 0 x0 hx0), hx0'.out, hget.out]
        · have hlt' : ¬ (i : Int) < (t.size : Int) := by omega
          go_wp2_with fail
          go_ret
          have he : j + i = s.size := by have := htz.out; omega
          exact ⟨by rw [← crcTo_all, ← he]; rfl, hF⟩
end Go.Proofs.YthigfpaajbejdaaDoor
