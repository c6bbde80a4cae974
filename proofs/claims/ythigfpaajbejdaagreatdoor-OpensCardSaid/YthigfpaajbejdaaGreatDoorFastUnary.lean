/-
  bitio.fast, walked: ones, Unary.
-/
import Derived.Test.YthigfpaajbejdaaGreatDoorFastRead
import Derived.Test.YthigfpaajbejdaaGreatDoorText
namespace Go.Proofs.YthigfpaajbejdaaGreatDoor
open Go.RowKit

theorem Cfg.byte_blen (c : Cfg) (q : Nat) (h : c.byte q ≠ 0) : c.una (8 * q) (8 - blen (c.byte q)) := by
  have h1 := blen_pos h
  have h2 := blen_le_of_lt (k := 8) (c.byte_lt q)
  have h3 := blen_le h
  have h4 := blen_lt (c.byte q)
  rw [← c.bits_byte q] at h3 h4
  rw [← c.bits_byte q]
  rw [c.bits_byte q] at *
  exact c.una_num (8 * q) 8 (blen (c.byte q)) h1 h2 (by rw [c.bits_byte]; exact h3) (by rw [c.bits_byte]; exact h4)
theorem Cfg.byte_zero (c : Cfg) (q : Nat) : c.byte q = 0 ↔ c.bits (8 * q) 8 = 0 := by rw [c.bits_byte]
theorem Cfg.blen_res (c : Cfg) (p m n : Nat) (h : c.una p m) (hm : m < n) (hn : n ≤ 64) : blen (c.res p n) = 64 - m := by
  refine blen_unique ?_ (.inr ?_)
  · rw [c.res_split p m n (by omega) hn, h.1, Nat.zero_mul, Nat.zero_add]
    exact c.res_rest p m n (by omega) hn
  · have h1 : c.bits p (m + 1) = 1 := by
      show 2 * c.bits p m + c.bit (p + m) = 1
      rw [h.1, h.2]
    rw [c.res_split p (m + 1) n (by omega) hn, h1, Nat.one_mul, show 64 - m - 1 = 64 - (m + 1) by omega]
    exact Nat.le_add_right _ _
theorem Cfg.res_none (c : Cfg) (p n : Nat) (h : c.bits p n = 0) : c.res p n = 0 := by unfold res; rw [h, Nat.zero_mul]

theorem fskip_int {B : Nat} {w : World} {rb fb bs : Nat} {c : Cfg} {tk p n ft left k err : Nat} {v : Value} {xs : List Value} (h : FastV B w rb fb bs c tk p n ft left k err v xs) {z : Int} {j : Nat} (hz : z = (j : Int)) (hj : j ≤ n) :
    Calls Tryz.prog 258 #[.pointer (some ⟨rb, 0, none⟩), .int .i64 z] w fun e w' => e = .returned (.tuple #[]) ∧ Fr (rb :: fb :: v.ownBlock.toList) w w' ∧
      ∃ tk' v' xs', FastV B w' rb fb bs c tk' (p + j) (n - j) ft left k err v' xs' ∧ (∀ g, v'.ownBlock = some g → v.ownBlock = some g ∨ w.heap.size ≤ g) := by
  subst hz
  refine (fskip_any h j hj).mono ?_
  rintro e w' ⟨h1, h2, v', xs', h3, h4⟩
  exact ⟨h1, h2, _, v', xs', h3, h4⟩
theorem fskip_all {B : Nat} {w : World} {rb fb bs : Nat} {c : Cfg} {tk p n ft left k err : Nat} {v : Value} {xs : List Value} (h : FastV B w rb fb bs c tk p n ft left k err v xs) :
    Calls Tryz.prog 258 #[.pointer (some ⟨rb, 0, none⟩), .int .i64 n] w fun e w' => e = .returned (.tuple #[]) ∧ Fr (rb :: fb :: v.ownBlock.toList) w w' ∧
      ∃ v' xs', FastV B w' rb fb bs c (tk + (n + 7) / 8) (p + n) 0 ft left k err v' xs' ∧ (∀ g, v'.ownBlock = some g → v.ownBlock = some g ∨ w.heap.size ≤ g) := by
  refine (fskip_any h n (Nat.le_refl _)).mono ?_
  rintro e w' ⟨h1, h2, v', xs', h3, h4⟩
  rw [Nat.sub_self] at h3
  exact ⟨h1, h2, v', xs', h3, h4⟩
theorem fill_int {B : Nat} {w : World} {rb fb bs : Nat} {c : Cfg} {tk p n ft left k err : Nat} {v : Value} {xs : List Value} (h : FastV B w rb fb bs c tk p n ft left k err v xs) {z : Int} {need : Nat} (hz : z = (need : Int)) (h56 : need ≤ 56) (hp : p + need ≤ 8 * c.lim.1) :
    Calls Tryz.prog 257 #[.pointer (some ⟨rb, 0, none⟩), .int .i64 z] w fun e w' => e = .returned .nilIface ∧ Fr [rb, fb, bs] w w' ∧ ∃ n' ft' left k err, need ≤ n' ∧ FastV B w' rb fb bs c tk p n' ft' left k err v xs := by
  subst hz; exact fill_ok h need h56 hp

theorem FastV.taken {B : Nat} {w w' : World} {rb fb bs : Nat} {c : Cfg} {tk p ft left k err j : Nat} {v v' : Value} {xs xs' : List Value} (h : FastV B w rb fb bs c tk p 0 ft left k err v xs) (hf : Fr (fb :: v.ownBlock.toList) w w') (hv : FeedV B w' fb bs c (tk + j) ft left k err 0 v' xs') :
    FastV B w' rb fb bs c (tk + j) (p + 8 * j) 0 ft left k err v' xs' := by
  have hpos := h.pos
  refine ⟨?_, hv, h.above, by omega, by omega, hv.le⟩
  have hb := hf.blk h.blk (by
    rw [List.mem_cons]; rintro (e | e)
    · exact h.ne_fb e
    · exact h.ne_own (by simpa using e))
  have e1 : c.res p 0 = 0 := c.res_none p 0 rfl
  have e2 : c.res (p + 8 * j) 0 = 0 := c.res_none _ 0 rfl
  rw [e1] at hb
  rw [e2]; exact hb

set_option maxRecDepth 100000 in
set_option maxHeartbeats 1000000 in
theorem ones_ok {B : Nat} {w : World} {rb fb bs : Nat} {c : Cfg} {tk p n ft left k err : Nat} {v : Value} {xs : List Value} (h : FastV B w rb fb bs c tk p n ft left k err v xs) (m : Nat) (hu : c.una (p + n) m) (hp : p + n + m < 8 * c.lim.1) :
    Calls Tryz.prog 260 #[.pointer (some ⟨rb, 0, none⟩)] w fun e w' => e = .returned (.tuple #[.int .i64 m, .nilIface]) ∧ Fr [fb, bs] w w' ∧ ∃ ft' left k err, tk + (n + 7) / 8 + m / 8 < ft' ∧ FastV B w' rb fb bs c tk p n ft' left k err v xs := by
  have hc := h.blk.cell
  have hsm := h.small
  have hlen := h.feed.lim_len
  have hft0 := h.feed.ft_le
  have hn64 := h.n64
  obtain ⟨hd, hhd⟩ : ∃ hd, hd = (n + 7) / 8 := ⟨_, rfl⟩
  have hpos : p + n = 8 * (tk + hd) := by rw [hhd]; exact h.pos
  have hsz : m < 16777216 := by omega
  have hhd9 : hd < 10 := by omega
  rw [← hhd] at hc
  rw [hpos] at hu hp
  have hH : Hid (hd = (n + 7) / 8 ∧ c.una (8 * (tk + hd)) m ∧ 8 * (tk + hd) + m < 8 * c.lim.1) := ⟨hhd, hu, hp⟩
  clear hhd hpos hu hp hlen hft0
  go_enter Tryz.func260, Tryz.ntmps260
  go_wp2_with fail
  go_loopg [4] (m / 8) (fun g s4 wx => ∃ i ft left k err : Nat, g = m / 8 - i ∧ i ≤ m / 8 ∧ s4 = .int .i64 (hd + i : Nat) ∧ FastV B wx rb fb bs c tk p n ft left k err v xs ∧ Fr [fb, bs] w wx)
  case atStart => exact ⟨0, ft, left, k, err, rfl, Nat.zero_le _, rfl, h, Fr.refl _ _⟩
  case round =>
    obtain ⟨i, ft, left, k, err, hg, hi, rfl, hs, hF⟩ := hrel
    have hc := hs.blk.cell
    rw [← hH.out.1] at hc
    have hG := Hid.mk hg
    clear hg
    have hq : Hid ((hd : Int) + (i : Int) + 1 = ((hd + i + 1 : Nat) : Int)) := by unfold Hid; omega
    have hq2 : Hid ((hd : Int) + (i : Int) = ((hd + i : Nat) : Int)) := by unfold Hid; omega
    have hw : tk + (hd + i + 1) ≤ c.lim.1 := by have := hH.out; omega
    have hB1 := c.byte_lt (tk + (hd + i))
    by_cases hlt : i < m / 8
    · have hz : c.byte (tk + (hd + i)) = 0 := by
        rw [c.byte_zero]
        have h1 := c.bits_zero_le _ m (8 * i + 8) (by omega) hH.out.2.1.1
        have h2 := ((c.bits_zero_add _ (8 * i) 8).1 h1).2
        rw [show 8 * (tk + (hd + i)) = 8 * (tk + hd) + 8 * i by omega]; exact h2
      have hz' := Hid.mk hz
      clear hz
      go_wp2_with (first
        | (go_at_call 242; refine (want_int hs.feed hq.out hw).mono ?_; rintro e w1 ⟨rfl, hf1, ft1, l1, k1, e1, hle1, hin1, hv1⟩; have hs1 := hs.want hf1 hle1 hv1; have hc1 := hs1.blk.cell)
        | (go_at_call 251; refine (peek_int hs1.feed hq2.out (by omega)).mono ?_; rw [hz'.out]; rintro e w2 ⟨rfl, rfl⟩))
      go_roundg (m / 8 - (i + 1))
      case measure => have := hG.out; omega
      case rel => exact ⟨i + 1, ft1, l1, k1, e1, rfl, by omega, by go_num, hs1, hF.same hf1⟩
    · obtain rfl : i = m / 8 := by omega
      have hnz : c.byte (tk + (hd + m / 8)) ≠ 0 := by
        intro hz
        have h1 := hH.out.2.1
        have h2 : c.bits (8 * (tk + hd)) (8 * (m / 8) + 8) = 0 := by
          refine (c.bits_zero_add _ _ _).2 ⟨c.bits_zero_le _ m _ (by omega) h1.1, ?_⟩
          rw [show 8 * (tk + hd) + 8 * (m / 8) = 8 * (tk + (hd + m / 8)) by omega]
          exact (c.byte_zero _).1 hz
        have h3 := c.bit_of_zero _ _ m (by omega) h2
        have := h1.2
        omega
      have hres : Hid (8 * (m / 8) + (8 - blen (c.byte (tk + (hd + m / 8)))) = m) := by
        have h1 := c.byte_blen _ hnz
        refine c.una_unique (8 * (tk + hd)) _ _ ?_ hH.out.2.1
        refine c.una_add _ _ _ (c.bits_zero_le _ m _ (by omega) hH.out.2.1.1) ?_
        rw [show 8 * (tk + hd) + 8 * (m / 8) = 8 * (tk + (hd + m / 8)) by omega]; exact h1
      have hb8 := blen_le_of_lt (k := 8) hB1
      have hne : (((c.byte (tk + (hd + m / 8)) : Nat) : Int) != 0) = true := by simpa using hnz
      have hnz' := Hid.mk hnz
      clear hnz
      go_wp2_with (first
        | (go_at_call 242; refine (want_int hs.feed hq.out hw).mono ?_; rintro e w1 ⟨rfl, hf1, ft1, l1, k1, e1, hle1, hin1, hv1⟩; have hs1 := hs.want hf1 hle1 hv1; have hc1 := hs1.blk.cell)
        | (go_at_call 251; refine (peek_int hs1.feed hq2.out (by omega)).mono ?_; rintro e w2 ⟨rfl, rfl⟩))
      rw [← hH.out.1] at hc1
      go_quiet ((go_at_call 262; exact quiet_eq (lz8_any _ hB1 _)))
      go_wp2_with fail
      go_ret2
      refine ⟨congrArg (fun z => Ending.returned (.tuple #[.int .i64 z, .nilIface])) ?_, (hF.same hf1).drewN' _, ft1, l1, k1, e1, by have := hH.out.1; omega, hs1.drewN _⟩
      have := hres.out
      show 8 * ((hd : Int) + (m : Int) / 8 - (hd : Int)) + ((8 - blen (c.byte (tk + (hd + m / 8))) : Nat) : Int) = (m : Int)
      omega

set_option maxRecDepth 100000 in
set_option maxHeartbeats 1000000 in
theorem ones_not {B : Nat} {w : World} {rb fb bs : Nat} {c : Cfg} {tk p n ft left k err : Nat} {v : Value} {xs : List Value} (h : FastV B w rb fb bs c tk p n ft left k err v xs) (hu : c.bits (p + n) (8 * c.lim.1 - (p + n)) = 0) (hl : wantE c.lim.2 ≠ 0) :
    Calls Tryz.prog 260 #[.pointer (some ⟨rb, 0, none⟩)] w fun e w' => e = .returned (.tuple #[.int .i64 0, .iface (errT (wantE c.lim.2)) (.int .i64 (errN (wantE c.lim.2)))]) ∧ Fr [fb, bs] w w' ∧ ∃ ft' left k err, FastV B w' rb fb bs c tk p n ft' left k err v xs := by
  have hc := h.blk.cell
  have hsm := h.small
  have hlen := h.feed.lim_len
  have hft0 := h.feed.ft_le
  have hn64 := h.n64
  have hlm := h.lim
  obtain ⟨hd, hhd⟩ : ∃ hd, hd = (n + 7) / 8 := ⟨_, rfl⟩
  have hpos : p + n = 8 * (tk + hd) := by rw [hhd]; exact h.pos
  have hhd9 : hd < 10 := by omega
  rw [← hhd] at hc
  obtain ⟨m, hm⟩ : ∃ m, m = c.lim.1 - (tk + hd) := ⟨_, rfl⟩
  rw [hpos, show 8 * c.lim.1 - 8 * (tk + hd) = 8 * m by omega] at hu
  have hsz : m < 16777216 := by omega
  have hH : Hid (hd = (n + 7) / 8 ∧ c.bits (8 * (tk + hd)) (8 * m) = 0 ∧ tk + hd + m = c.lim.1) := ⟨hhd, hu, by omega⟩
  obtain ⟨hh, hlf⟩ := errV_leaf hl
  have hln := hlf.nnil
  clear hhd hpos hu hlen hft0 hlm hm hlf
  go_enter Tryz.func260, Tryz.ntmps260
  go_wp2_with fail
  go_loopg [4] m (fun g s4 wx => ∃ i ft left k err : Nat, g = m - i ∧ i ≤ m ∧ s4 = .int .i64 (hd + i : Nat) ∧ FastV B wx rb fb bs c tk p n ft left k err v xs ∧ Fr [fb, bs] w wx)
  case atStart => exact ⟨0, ft, left, k, err, rfl, Nat.zero_le _, rfl, h, Fr.refl _ _⟩
  case round =>
    obtain ⟨i, ft, left, k, err, hg, hi, rfl, hs, hF⟩ := hrel
    have hc := hs.blk.cell
    rw [← hH.out.1] at hc
    have hG := Hid.mk hg
    clear hg
    have hq : Hid ((hd : Int) + (i : Int) + 1 = ((hd + i + 1 : Nat) : Int)) := by unfold Hid; omega
    have hq2 : Hid ((hd : Int) + (i : Int) = ((hd + i : Nat) : Int)) := by unfold Hid; omega
    by_cases hlt : i < m
    · have hw : tk + (hd + i + 1) ≤ c.lim.1 := by have := hH.out; omega
      have hz : c.byte (tk + (hd + i)) = 0 := by
        rw [c.byte_zero]
        have h1 := c.bits_zero_le _ (8 * m) (8 * i + 8) (by omega) hH.out.2.1
        have h2 := ((c.bits_zero_add _ (8 * i) 8).1 h1).2
        rw [show 8 * (tk + (hd + i)) = 8 * (tk + hd) + 8 * i by omega]; exact h2
      have hz' := Hid.mk hz
      clear hz
      go_wp2_with (first
        | (go_at_call 242; refine (want_int hs.feed hq.out hw).mono ?_; rintro e w1 ⟨rfl, hf1, ft1, l1, k1, e1, hle1, hin1, hv1⟩; have hs1 := hs.want hf1 hle1 hv1; have hc1 := hs1.blk.cell)
        | (go_at_call 251; refine (peek_int hs1.feed hq2.out (by omega)).mono ?_; rw [hz'.out]; rintro e w2 ⟨rfl, rfl⟩))
      go_roundg (m - (i + 1))
      case measure => have := hG.out; omega
      case rel => exact ⟨i + 1, ft1, l1, k1, e1, rfl, by omega, by go_num, hs1, hF.same hf1⟩
    · obtain rfl : i = m := by omega
      have hw : c.lim.1 < tk + (hd + i + 1) := by have := hH.out; omega
      go_wp2_with (go_at_call 242; refine (want_not hs.feed hq.out hw hl).mono ?_; rintro e w1 ⟨rfl, hf1, ft1, l1, k1, e1, hle1, hv1⟩; have hs1 := hs.want hf1 hle1 hv1)
      go_ret2
      exact ⟨rfl, hF.same hf1, ft1, l1, k1, e1, hs1⟩

set_option maxRecDepth 100000 in
set_option maxHeartbeats 1000000 in
theorem qUnary_in {B : Nat} {w : World} {rb bs : Nat} {c : Cfg} {p : Nat} {fb tk n ft left k err : Nat} {v : Value} {xs : List Value} (h : FastV B w rb fb bs c tk p n ft left k err v xs) (m : Nat) (hu : c.una p m) (hmn : m < n) :
    Calls Tryz.prog 256 #[.pointer (some ⟨rb, 0, none⟩)] w fun e w' => e = .returned (.tuple #[.int .i64 m, .nilIface]) ∧ Moved (FastS B · rb bs c) w (rb :: fb :: bs :: v.ownBlock.toList) (p + m + 1) w' := by
  have hc := h.blk.cell
  have hn64 := h.n64
  have hlz : 64 - blen (c.res p n) = m := by rw [c.blen_res p m n hu hmn hn64]; omega
  have hcall := fun W => lz64_any (c.res p n) (c.res_lt p n hn64) W
  rw [hlz] at hcall
  have hcall' := Hid.mk hcall
  clear hlz hcall
  have hlt : (m : Int) < (n : Int) := by omega
  go_enter Tryz.func256, Tryz.ntmps256
  go_wp2_with (first
    | (go_at_call 259; refine (hcall'.out _).mono ?_; rintro e w1 ⟨rfl, rfl⟩)
    | (go_at_call 258; (with_reducible refine (fskip_int h (z := (m : Int)) (j := m) rfl (Nat.le_of_lt hmn)).mono ?_); rintro e w1 ⟨rfl, hf1, tk1, v1, xs1, hs1, hw1⟩)
    | (go_at_call 258; (with_reducible refine (fskip_int hs1 (z := 1) (j := 1) rfl (by omega)).mono ?_); rintro e w2 ⟨rfl, hf2, tk2, v2, xs2, hs2, hw2⟩))
  go_ret2
  have hF1 : Fr (rb :: fb :: bs :: v.ownBlock.toList) w w1 := hf1.mono (fun k hk => .inl (sub3 hk))
  refine ⟨rfl, Moved.trans (S1 := rb :: fb :: bs :: v1.ownBlock.toList) hF1 (sub4 hw1) ⟨hf2.mono (fun k hk => .inl (sub3 hk)), _, ⟨fb, _, _, _, _, _, _, _, _, hs2, rfl⟩, sub4 hw2⟩⟩

set_option maxRecDepth 100000 in
set_option maxHeartbeats 1000000 in
theorem qUnary_out {B : Nat} {w : World} {rb bs : Nat} {c : Cfg} {p : Nat} {fb tk n ft left k err : Nat} {v : Value} {xs : List Value} (h : FastV B w rb fb bs c tk p n ft left k err v xs) (m : Nat) (hz : c.bits p n = 0) (hu : c.una (p + n) m) (hp : p + n + m < 8 * c.lim.1) :
    Calls Tryz.prog 256 #[.pointer (some ⟨rb, 0, none⟩)] w fun e w' => e = .returned (.tuple #[.int .i64 (n + m : Nat), .nilIface]) ∧ Moved (FastS B · rb bs c) w (rb :: fb :: bs :: v.ownBlock.toList) (p + (n + m) + 1) w' := by
  have hc := h.blk.cell
  have hn64 := h.n64
  have hlen := h.feed.lim_len
  have hft0 := h.feed.ft_le
  have hsz : m < 16777216 := by omega
  rw [c.res_none p n hz] at hc
  have hge : ¬ (64 : Int) < (n : Int) := by omega
  have hge' : ¬ ((64 - blen 0 : Nat) : Int) < (n : Int) := by rw [blen_zero]; omega
  have hcall : ∀ W, Calls Tryz.prog 259 #[.int .u64 0] W fun e w' => e = .returned (.int .i64 64) ∧ W = w' := fun W => lz64_any 0 (by decide) W
  have hpos := h.pos
  have hq : Hid ((m : Int) / 8 = ((m / 8 : Nat) : Int)) := by unfold Hid; omega
  have hq2 : Hid ((m : Int) % 8 + 1 = ((m % 8 + 1 : Nat) : Int)) := by unfold Hid; omega
  have hH : Hid (p + n = 8 * (tk + (n + 7) / 8) ∧ c.una (p + n) m ∧ p + n + m < 8 * c.lim.1) := ⟨hpos, hu, hp⟩
  clear hpos hu hp hz hlen hft0
  go_enter Tryz.func256, Tryz.ntmps256
  go_wp2_with (first
    | (go_at_call 259; refine (hcall _).mono ?_; rintro e w1 ⟨rfl, rfl⟩)
    | (go_at_call 260; refine (ones_ok h m hH.out.2.1 hH.out.2.2).mono ?_; rintro e w1 ⟨rfl, hf1, ft1, l1, k1, e1, hin1, hs1⟩; have hc1 := hs1.blk.cell)
    | (go_at_call 258; (with_reducible refine (fskip_all hs1).mono ?_); rintro e w2 ⟨rfl, hf2, v2, xs2, hs2, hw2⟩; have hc2 := hs2.blk.cell))
  have hP2 := Hid.mk hs2.pos
  have hI2 := Hid.mk (hs1.inft)
  have hin2 : tk + (n + 7) / 8 + m / 8 ≤ ft1 := by omega
  go_wp2_with (first
    | (go_at_call 252; (with_reducible refine (take_int hs2.feed hq.out hin2 hs2.size).mono ?_); rintro e w3 ⟨rfl, hf3, v3, xs3, hv3, hw3⟩; have hs3 := hs2.taken hf3 hv3; have hc3 := hs3.blk.cell)
    | (go_at_call 257; (with_reducible refine (fill_int hs3 hq2.out (by omega) (by have := hH.out; omega)).mono ?_); rintro e w4 ⟨rfl, hf4, n4, ft4, l4, k4, e4, hn4, hs4⟩; have hc4 := hs4.blk.cell)
    | (go_at_call 258; (with_reducible refine (fskip_int hs4 hq2.out hn4).mono ?_); rintro e w5 ⟨rfl, hf5, tk5, v5, xs5, hs5, hw5⟩))
  go_ret2
  have hF1 : Fr (rb :: fb :: bs :: v.ownBlock.toList) w w1 := hf1.mono (fun k hk => .inl (sub2 hk))
  have hF2 : Fr (rb :: fb :: bs :: v.ownBlock.toList) w1 w2 := hf2.mono (fun k hk => .inl (sub3 hk))
  have hF3 : Fr (rb :: fb :: bs :: v2.ownBlock.toList) w2 w3 := hf3.mono (fun k hk => .inl (sub3 (List.mem_cons_of_mem _ hk)))
  have hF4 : Fr (rb :: fb :: bs :: v3.ownBlock.toList) w3 w4 := hf4.mono (fun k hk => .inl (sub5 hk))
  have hF5 : Fr (rb :: fb :: bs :: v3.ownBlock.toList) w4 w5 := hf5.mono (fun k hk => .inl (sub3 hk))
  have hlast : Moved (FastS B · rb bs c) w3 (rb :: fb :: bs :: v3.ownBlock.toList) (p + (n + m) + 1) w5 := by
    rw [show p + (n + m) + 1 = p + n + 8 * (m / 8) + (m % 8 + 1) by omega]
    exact ⟨hF4.same hF5, _, ⟨fb, _, _, _, _, _, _, _, _, hs5, rfl⟩, sub4 (fun g hg => (hw5 g hg).imp_right (Nat.le_trans hF4.size))⟩
  exact ⟨rfl, Moved.trans (S1 := rb :: fb :: bs :: v2.ownBlock.toList) (hF1.same hF2) (fun x hx => (sub4 hw2 x hx).imp_right (Nat.le_trans hF1.size)) (Moved.trans (S1 := rb :: fb :: bs :: v3.ownBlock.toList) hF3 (sub4 hw3) hlast)⟩

set_option maxRecDepth 100000 in
set_option maxHeartbeats 1000000 in
theorem qUnary_not {B : Nat} {w : World} {rb bs : Nat} {c : Cfg} {p : Nat} {S : List Nat} (h : FastS B w rb bs c p S) (hu : c.bits p (8 * c.lim.1 - p) = 0) (hl : wantE c.lim.2 ≠ 0) :
    Calls Tryz.prog 256 #[.pointer (some ⟨rb, 0, none⟩)] w fun e w' => e = .returned (.tuple #[.int .i64 0, .iface (errT (wantE c.lim.2)) (.int .i64 (errN (wantE c.lim.2)))]) ∧ Moved (FastS B · rb bs c) w S p w' := by
  obtain ⟨fb, tk, n, ft, left, k, err, v, xs, h, rfl⟩ := h
  have hc := h.blk.cell
  have hn64 := h.n64
  have hlm := h.lim
  have hz := c.bits_zero_le p _ n (by omega) hu
  have hu2 : c.bits (p + n) (8 * c.lim.1 - (p + n)) = 0 := by
    have := (c.bits_zero_add p n (8 * c.lim.1 - (p + n))).1 (by rw [show n + (8 * c.lim.1 - (p + n)) = 8 * c.lim.1 - p by omega]; exact hu)
    exact this.2
  rw [c.res_none p n hz] at hc
  have hge : ¬ (64 : Int) < (n : Int) := by omega
  have hcall : ∀ W, Calls Tryz.prog 259 #[.int .u64 0] W fun e w' => e = .returned (.int .i64 64) ∧ W = w' := fun W => lz64_any 0 (by decide) W
  obtain ⟨hh, hlf⟩ := errV_leaf hl
  have hln := hlf.nnil
  have hH := Hid.mk hu2
  clear hz hu hu2 hlf hlm
  go_enter Tryz.func256, Tryz.ntmps256
  go_wp2_with (first
    | (go_at_call 259; refine (hcall _).mono ?_; rintro e w1 ⟨rfl, rfl⟩)
    | (go_at_call 260; refine (ones_not h hH.out hl).mono ?_; rintro e w1 ⟨rfl, hf1, ft1, l1, k1, e1, hs1⟩))
  go_ret2
  exact ⟨rfl, hf1.mono (fun k hk => .inl (sub2 hk)), _, ⟨fb, _, _, _, _, _, _, _, _, hs1, rfl⟩, fun x hx => .inl hx⟩

/-- Unary: a one comes. -/
theorem qUnary_ok {B : Nat} {w : World} {rb bs : Nat} {c : Cfg} {p : Nat} {S : List Nat} (h : FastS B w rb bs c p S) (n : Nat) (hu : c.una p n) (hp : p + n < 8 * c.lim.1) :
    Calls Tryz.prog 256 #[.pointer (some ⟨rb, 0, none⟩)] w fun e w' => e = .returned (.tuple #[.int .i64 n, .nilIface]) ∧ Moved (FastS B · rb bs c) w S (p + n + 1) w' := by
  obtain ⟨fb, tk, m, ft, left, k, err, v, xs, h, rfl⟩ := h
  by_cases hnm : n < m
  · exact qUnary_in h n hu hnm
  · have hz : c.bits p m = 0 := c.bits_zero_le p n m (by omega) hu.1
    have hu2 : c.una (p + m) (n - m) := by
      have e : m + (n - m) = n := by omega
      refine ⟨((c.bits_zero_add p m (n - m)).1 (by rw [e]; exact hu.1)).2, ?_⟩
      rw [show p + m + (n - m) = p + n by omega]; exact hu.2
    have := qUnary_out (bs := bs) h (n - m) hz hu2 (by omega)
    rw [show m + (n - m) = n by omega] at this
    exact this
end Go.Proofs.YthigfpaajbejdaaGreatDoor
