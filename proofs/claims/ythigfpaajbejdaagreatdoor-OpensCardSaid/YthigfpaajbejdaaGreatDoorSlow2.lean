/-
  bitio.slow, walked: Unary where no one comes, Align.
-/
import Derived.Test.YthigfpaajbejdaaGreatDoorSlow
namespace Go.Proofs.YthigfpaajbejdaaGreatDoor
open Go.RowKit

set_option maxRecDepth 100000 in
set_option maxHeartbeats 1000000 in
/-- Unary: no one comes. -/
theorem sUnary_not {B : Nat} {w : World} {rb bs : Nat} {c : Cfg} {p : Nat} {S : List Nat} (h : SlowS B w rb bs c p S) (hu : c.bits p (8 * c.lim.1 - p) = 0) (hl : wantE c.lim.2 ≠ 0) :
    Calls Tryz.prog 247 #[.pointer (some ⟨rb, 0, none⟩)] w fun e w' => e = .returned (.tuple #[.int .i64 0, .iface (errT (wantE c.lim.2)) (.int .i64 (errN (wantE c.lim.2)))]) ∧ Moved (SlowS B · rb bs c) w S p w' := by
  obtain ⟨fb, tk, kk, ft, left, k, err, v, xs, h, rfl, hlim, rfl⟩ := h
  have hlen := h.feed.lim_len
  have hft0 := h.feed.ft_le
  have hsz : c.lim.1 ≤ 1048576 := by omega
  obtain ⟨n, hn⟩ : ∃ n, n = 8 * c.lim.1 - (8 * tk + kk) := ⟨_, rfl⟩
  rw [← hn] at hu
  have hH : Hid (8 * tk + kk ≤ 8 * c.lim.1 ∧ n = 8 * c.lim.1 - (8 * tk + kk) ∧ c.bits (8 * tk + kk) n = 0) := ⟨hlim, hn, hu⟩
  have hn16 : n < 16777216 := by omega
  have hk8 := h.lt
  obtain ⟨hh, hlf⟩ := errV_leaf hl
  have hln := hlf.nnil
  clear hn hlim hu hlen hft0 hsz hlf
  go_enter Tryz.func247, Tryz.ntmps247
  go_wp2_with fail
  go_loopg [4] n (fun g s4 wx => ∃ i ft left k err : Nat, g = n - i ∧ i ≤ n ∧ s4 = .int .i64 i ∧ SlowV B wx rb fb bs c tk kk ft left k err v xs ∧ Fr (rb :: fb :: bs :: v.ownBlock.toList) w wx)
  case atStart => exact ⟨0, ft, left, k, err, rfl, Nat.zero_le _, rfl, h, Fr.refl _ _⟩
  case round =>
    obtain ⟨i, ft, left, k, err, hg, hi, rfl, hs, hF⟩ := hrel
    have hc := hs.blk.cell
    have hq : Hid (((kk : Int) + (i : Int)) / 8 + 1 = (((kk + i) / 8 + 1 : Nat) : Int)) := by unfold Hid; omega
    have hG : Hid (gk = n - i) := hg
    clear hg
    go_wp2_with fail
    go_still_tail 13, (by kernel_rfl)
    by_cases hlt : i < n
    · have hw : tk + ((kk + i) / 8 + 1) ≤ c.lim.1 := by have := hH.out; omega
      have hz : c.bit (8 * tk + (i + kk)) = 0 := by
        have := c.bit_of_zero _ n i hlt hH.out.2.2
        rw [show 8 * tk + (i + kk) = 8 * tk + kk + i by omega]; exact this
      have hz' := Hid.mk hz
      clear hz
      go_wp2_with (first
        | (go_at_call 242; refine (want_int (hs.feed.drewN 1) hq.out hw).mono ?_; rintro e w1 ⟨rfl, hf1, ft1, l1, k1, e1, hle1, hin1, hv1⟩; have hs1 := (hs.drewN 1).want hf1 hv1; have hc1 := hs1.blk.cell)
        | (go_at_call 249; refine (ahead_is hs1 i (by omega) 0 (congrArg Nat.cast hz'.out)).mono ?_; rintro e w2 ⟨rfl, rfl⟩))
      go_roundg (n - (i + 1))
      case measure => have := hG.out; omega
      case rel => exact ⟨i + 1, ft1, l1, k1, e1, rfl, by omega, by go_num, hs1, hF.same ((Fr.drewN _ wr 1).same (hf1.mono (fun k hk => .inl (sub2 hk))))⟩
    · obtain rfl : n = i := by omega
      have hw : c.lim.1 < tk + ((kk + n) / 8 + 1) := by have := hH.out; omega
      go_wp2_with (go_at_call 242; refine (want_not (hs.feed.drewN 1) hq.out hw hl).mono ?_; rintro e w1 ⟨rfl, hf1, ft1, l1, k1, e1, hle1, hv1⟩; have hs1 := (hs.drewN 1).want hf1 hv1; have hc1 := hs1.blk.cell)
      go_ret2
      have hF2 : Fr (rb :: fb :: bs :: v.ownBlock.toList) w w1 := hF.same ((Fr.drewN _ wr 1).same (hf1.mono (fun k hk => .inl (sub2 hk))))
      exact ⟨rfl, hF2, _, ⟨fb, _, _, _, _, _, _, _, _, hs1, rfl, hH.out.1, rfl⟩, fun x hx => .inl hx⟩

theorem sRead_ok' {B : Nat} {w : World} {rb bs : Nat} {c : Cfg} {p : Nat} {S : List Nat} (h : SlowS B w rb bs c p S) {z : Int} {n : Nat} (hz : z = (n : Int)) (hn : n ≤ 64) (hp : p + n ≤ 8 * c.lim.1) :
    Calls Tryz.prog 246 #[.pointer (some ⟨rb, 0, none⟩), .int .i64 z] w fun e w' => e = .returned (.tuple #[.int .u64 (c.bits p n), .nilIface]) ∧ Moved (SlowS B · rb bs c) w S (p + n) w' := by
  subst hz; exact sRead_ok h n hn hp
/-- The rest of a byte is always there. -/
def toEnd (p : Nat) : Nat := (8 - p % 8) % 8
set_option maxRecDepth 100000 in
set_option maxHeartbeats 400000 in
theorem sAlign_any {B : Nat} {w : World} {rb bs : Nat} {c : Cfg} {p : Nat} {S : List Nat} (h : SlowS B w rb bs c p S) :
    Calls Tryz.prog 244 #[.pointer (some ⟨rb, 0, none⟩)] w fun e w' => e = .returned (.tuple #[.bool (decide (c.bits p (toEnd p) = 0)), .nilIface]) ∧ Moved (SlowS B · rb bs c) w S (p + toEnd p) w' := by
  have hS := h
  obtain ⟨fb, tk, kk, ft, left, k, err, v, xs, h, hp, hlim, rfl⟩ := h
  have hc := h.blk.cell
  have hk8 := h.lt
  have ht : Hid (-(kk : Int) % 8 = ((toEnd p : Nat) : Int)) := by
    have : toEnd p = (8 - kk) % 8 := by unfold toEnd; congr 2; omega
    unfold Hid; rw [this]; omega
  have h64 : toEnd p ≤ 64 := by unfold toEnd; omega
  have hin : p + toEnd p ≤ 8 * c.lim.1 := by unfold toEnd; omega
  obtain ⟨x, hx⟩ : ∃ x, x = c.bits p (toEnd p) := ⟨_, rfl⟩
  rw [← hx]
  have hx' := Hid.mk hx
  clear hx hlim
  have hP := Hid.mk hp
  clear hp
  have hcall := sRead_ok' hS ht.out h64 hin
  rw [← hx'.out] at hcall
  by_cases hx0 : x = 0
  · subst hx0
    go_enter Tryz.func244, Tryz.ntmps244
    go_wp2_with (go_at_call 246; refine hcall.mono ?_; rintro e w1 ⟨rfl, hm⟩)
    go_ret2
    exact ⟨rfl, hm⟩
  · have hxe : ((x : Int) == 0) = false := by simp; omega
    have hxd : decide (x = 0) = false := decide_eq_false hx0
    rw [hxd]
    go_enter Tryz.func244, Tryz.ntmps244
    go_wp2_with (go_at_call 246; refine hcall.mono ?_; rintro e w1 ⟨rfl, hm⟩)
    go_ret2
    exact ⟨rfl, hm⟩
end Go.Proofs.YthigfpaajbejdaaGreatDoor
