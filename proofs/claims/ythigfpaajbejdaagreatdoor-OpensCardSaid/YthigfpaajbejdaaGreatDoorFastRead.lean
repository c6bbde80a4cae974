/-
  bitio.fast, walked: Read, Align.
-/
import Derived.Test.YthigfpaajbejdaaGreatDoorFastFill
import Derived.Test.YthigfpaajbejdaaGreatDoorSlow2
namespace Go.Proofs.YthigfpaajbejdaaGreatDoor
open Go.RowKit

/-- A quick reader in block rb, over the source in block bs, p bits read; S: the blocks that are its own. -/
def FastS (B : Nat) (w : World) (rb bs : Nat) (c : Cfg) (p : Nat) (S : List Nat) : Prop :=
  ∃ fb tk n ft left k err v xs, FastV B w rb fb bs c tk p n ft left k err v xs ∧ S = rb :: fb :: bs :: v.ownBlock.toList

theorem Moved.trans {St : World → Nat → List Nat → Prop} {w w1 w2 : World} {S S1 : List Nat} {p : Nat} (hF : Fr S w w1) (hn : ∀ x ∈ S1, x ∈ S ∨ w.heap.size ≤ x) (h2 : Moved St w1 S1 p w2) : Moved St w S p w2 := by
  obtain ⟨hF2, S2, hs2, hn2⟩ := h2
  refine ⟨hF.trans hF2 hn, S2, hs2, fun x hx => ?_⟩
  rcases hn2 x hx with h | h
  · exact hn x h
  · exact .inr (Nat.le_trans hF.size h)
theorem FastV.lim {B : Nat} {w : World} {rb fb bs : Nat} {c : Cfg} {tk p n ft left k err : Nat} {v : Value} {xs : List Value} (h : FastV B w rb fb bs c tk p n ft left k err v xs) : p + n ≤ 8 * c.lim.1 := by
  have h1 := h.feed.ft_lim
  have h2 := h.pos
  have h3 := h.inft
  omega
theorem fill_ok {B : Nat} {w : World} {rb fb bs : Nat} {c : Cfg} {tk p n ft left k err : Nat} {v : Value} {xs : List Value} (h : FastV B w rb fb bs c tk p n ft left k err v xs) (need : Nat) (h56 : need ≤ 56) (hp : p + need ≤ 8 * c.lim.1) :
    Calls Tryz.prog 257 #[.pointer (some ⟨rb, 0, none⟩), .int .i64 need] w fun e w' => e = .returned .nilIface ∧ Fr [rb, fb, bs] w w' ∧ ∃ n' ft' left k err, need ≤ n' ∧ FastV B w' rb fb bs c tk p n' ft' left k err v xs := by
  by_cases hn : need ≤ n
  · refine (fill_none h need hn).mono ?_
    rintro e w' ⟨rfl, rfl⟩
    exact ⟨rfl, Fr.refl _ _, n, ft, left, k, err, hn, h⟩
  · exact fill_go h need (by omega) h56 hp
theorem sub5 {rb fb bs : Nat} {l : List Nat} {x : Nat} (h : x ∈ [rb, fb, bs]) : x ∈ rb :: fb :: bs :: l := by
  simp only [List.mem_cons, List.not_mem_nil, or_false] at h ⊢
  rcases h with h | h | h
  · exact .inl h
  · exact .inr (.inl h)
  · exact .inr (.inr (.inl h))

theorem shr_val (x k : Nat) : ((x : Int) / 2 ^ k) = ((x / 2 ^ k : Nat) : Int) := by rw [nat_pow_int]; rfl

set_option maxRecDepth 100000 in
set_option maxHeartbeats 1000000 in
theorem qRead_zero {rb : Nat} (w : World) :
    Calls Tryz.prog 255 #[.pointer (some ⟨rb, 0, none⟩), .int .i64 0] w fun e w' => e = .returned (.tuple #[.int .u64 0, .nilIface]) ∧ w = w' := by
  go_enter Tryz.func255, Tryz.ntmps255
  go_wp2_with fail
  go_ret2
  exact ⟨rfl, rfl⟩
set_option maxRecDepth 100000 in
set_option maxHeartbeats 1000000 in
theorem qRead_arg {rb : Nat} (n : Int) (hn : n < 0 ∨ 64 < n) (w : World) :
    Calls Tryz.prog 255 #[.pointer (some ⟨rb, 0, none⟩), .int .i64 n] w fun e w' => e = .returned (.tuple #[.int .u64 0, .iface 138 (.int .i64 15)]) ∧ w = w' := by
  have h1 : n < 0 ∨ (¬ n < 0 ∧ 64 < n) := by omega
  rcases h1 with h1 | ⟨h1, h2⟩
  all_goals
    go_enter Tryz.func255, Tryz.ntmps255
    go_wp2_with fail
    go_ret2
    exact ⟨rfl, rfl⟩
set_option maxRecDepth 100000 in
set_option maxHeartbeats 1000000 in
theorem qRead_small {B : Nat} {w : World} {rb bs : Nat} {c : Cfg} {p : Nat} {S : List Nat} (h : FastS B w rb bs c p S) (n : Nat) (h0 : 0 < n) (hn : n ≤ 56) (hp : p + n ≤ 8 * c.lim.1) :
    Calls Tryz.prog 255 #[.pointer (some ⟨rb, 0, none⟩), .int .i64 n] w fun e w' => e = .returned (.tuple #[.int .u64 (c.bits p n), .nilIface]) ∧ Moved (FastS B · rb bs c) w S (p + n) w' := by
  obtain ⟨fb, tk, m, ft, left, k, err, v, xs, h, rfl⟩ := h
  have hg0 : ((n : Int) == 0) = false := by simp; omega
  have hg1 : ¬ (64 : Int) < n := by omega
  have hg2 : ¬ (56 : Int) < n := by omega
  have hH := Hid.mk hp
  clear hp
  go_enter Tryz.func255, Tryz.ntmps255
  go_wp2_with (first
    | (go_at_call 257; refine (fill_ok h n hn hH.out).mono ?_; rintro e w1 ⟨rfl, hf1, n1, ft1, l1, k1, e1, hn1, hs1⟩; have hc1 := hs1.blk.cell)
    | (go_at_call 258; refine (fskip_any hs1 n hn1).mono ?_; rintro e w2 ⟨rfl, hf2, v2, xs2, hs2, hw2⟩))
  go_ret2
  have hF1 : Fr (rb :: fb :: bs :: v.ownBlock.toList) w w1 := hf1.mono (fun k hk => .inl (sub5 hk))
  refine ⟨congrArg (fun z => Ending.returned (.tuple #[.int .u64 z, .nilIface])) ?_, hF1.same (hf2.mono (fun k hk => .inl (sub3 hk))), _, ⟨fb, _, _, _, _, _, _, _, _, hs2, rfl⟩, ?_⟩
  · show ((c.res p n1 : Nat) : Int) / 2 ^ (64 - n) = _
    rw [shr_val, c.res_top p n n1 hn1 hs1.n64]
  · exact sub4 (fun g hg => (hw2 g hg).imp_right (fun h => Nat.le_trans hF1.size h))

set_option maxRecDepth 100000 in
set_option maxHeartbeats 1000000 in
theorem qRead_not_small {B : Nat} {w : World} {rb bs : Nat} {c : Cfg} {p : Nat} {S : List Nat} (h : FastS B w rb bs c p S) (n : Nat) (h0 : 0 < n) (hn : n ≤ 56) (hp : 8 * c.lim.1 < p + n) (hl : wantE c.lim.2 ≠ 0) :
    Calls Tryz.prog 255 #[.pointer (some ⟨rb, 0, none⟩), .int .i64 n] w fun e w' => e = .returned (.tuple #[.int .u64 0, .iface (errT (wantE c.lim.2)) (.int .i64 (errN (wantE c.lim.2)))]) ∧ Moved (FastS B · rb bs c) w S p w' := by
  obtain ⟨fb, tk, m, ft, left, k, err, v, xs, h, rfl⟩ := h
  have hg0 : ((n : Int) == 0) = false := by simp; omega
  have hg1 : ¬ (64 : Int) < n := by omega
  have hg2 : ¬ (56 : Int) < n := by omega
  have hlm := h.lim
  have hmn : m < n := by omega
  have hH := Hid.mk hp
  obtain ⟨hh, hlf⟩ := errV_leaf hl
  have hln := hlf.nnil
  clear hp hlm hlf
  go_enter Tryz.func255, Tryz.ntmps255
  go_wp2_with (go_at_call 257; refine (fill_not h n hmn (by omega) hH.out hl).mono ?_; rintro e w1 ⟨rfl, hf1, ft1, l1, k1, e1, hs1⟩)
  go_ret2
  exact ⟨rfl, hf1.mono (fun k hk => .inl (sub2 hk)), _, ⟨fb, _, _, _, _, _, _, _, _, hs1, rfl⟩, fun x hx => .inl hx⟩

theorem qRead_small' {B : Nat} {w : World} {rb bs : Nat} {c : Cfg} {p : Nat} {S : List Nat} (h : FastS B w rb bs c p S) {z : Int} {n : Nat} (hz : z = (n : Int)) (h0 : 0 < n) (hn : n ≤ 56) (hp : p + n ≤ 8 * c.lim.1) :
    Calls Tryz.prog 255 #[.pointer (some ⟨rb, 0, none⟩), .int .i64 z] w fun e w' => e = .returned (.tuple #[.int .u64 (c.bits p n), .nilIface]) ∧ Moved (FastS B · rb bs c) w S (p + n) w' := by
  subst hz; exact qRead_small h n h0 hn hp
theorem half_val (c : Cfg) (p n : Nat) (h1 : 56 < n) (h2 : n ≤ 64) : bits .or .u64 ((c.bits p (n - 32) : Int) * 4294967296) (c.bits (p + (n - 32)) 32 : Int) = ((c.bits p n : Nat) : Int) := by
  have ha : c.bits p (n - 32) < 4294967296 := Nat.lt_of_lt_of_le (c.bits_lt _ _) (Nat.pow_le_pow_right (n := 2) (by decide) (show n - 32 ≤ 32 by omega))
  have hb : c.bits (p + (n - 32)) 32 < 4294967296 := c.bits_lt _ 32
  have hs := c.bits_add p (n - 32) 32
  rw [show n - 32 + 32 = n by omega] at hs
  rw [hs]
  generalize c.bits p (n - 32) = x at *
  generalize c.bits (p + (n - 32)) 32 = y at *
  rw [show ((x : Int) * 4294967296) = ((x * 4294967296 : Nat) : Int) by omega]
  refine (u64_or_nat _ _ (by omega) (by omega)).trans ?_
  rw [nat_join 32 (x * 4294967296) y (by omega) (by omega)]

set_option maxRecDepth 100000 in
set_option maxHeartbeats 1000000 in
theorem qRead_big {B : Nat} {w : World} {rb bs : Nat} {c : Cfg} {p : Nat} {S : List Nat} (h : FastS B w rb bs c p S) (n : Nat) (h1 : 56 < n) (hn : n ≤ 64) (hp : p + n ≤ 8 * c.lim.1) :
    Calls Tryz.prog 255 #[.pointer (some ⟨rb, 0, none⟩), .int .i64 n] w fun e w' => e = .returned (.tuple #[.int .u64 (c.bits p n), .nilIface]) ∧ Moved (FastS B · rb bs c) w S (p + n) w' := by
  obtain ⟨fb, tk, m, ft, left, k, err, v, xs, h, rfl⟩ := h
  have hc := h.blk.cell
  have hn64 := h.n64
  have hpos := h.pos
  have hg0 : ((n : Int) == 0) = false := by simp; omega
  have hg1 : ¬ (64 : Int) < n := by omega
  have hg2 : (56 : Int) < n := by omega
  have hw : tk + ((m + 7) / 8 + (n + 7 - m) / 8) ≤ c.lim.1 := by omega
  have hq : Hid ((((m + 7) / 8 : Nat) : Int) + ((n : Int) - (m : Int) + 7) / 8 = (((m + 7) / 8 + (n + 7 - m) / 8 : Nat) : Int)) := by unfold Hid; omega
  have hz : Hid ((n : Int) - 32 = ((n - 32 : Nat) : Int)) := by unfold Hid; omega
  have hH := Hid.mk hp
  clear hp hpos
  have ha : c.bits p (n - 32) < 4294967296 := Nat.lt_of_lt_of_le (c.bits_lt _ _) (Nat.pow_le_pow_right (n := 2) (by decide) (show n - 32 ≤ 32 by omega))
  go_enter Tryz.func255, Tryz.ntmps255
  go_wp2_with fail
  go_still_tail 18, (by kernel_rfl)
  go_wp2_with (go_at_call 242; refine (want_int (h.feed.drewN 1) hq.out hw).mono ?_; rintro e w1 ⟨rfl, hf1, ft1, l1, k1, e1, hle1, hin1, hv1⟩; have hs1 := (h.drewN 1).want hf1 hle1 hv1)
  have hF1 : Fr (rb :: fb :: bs :: v.ownBlock.toList) w w1 := (Fr.drewN _ w 1).same (hf1.mono (fun k hk => .inl (sub2 hk)))
  have hS1 : FastS B w1 rb bs c p (rb :: fb :: bs :: v.ownBlock.toList) := ⟨fb, _, _, _, _, _, _, _, _, hs1, rfl⟩
  have hA := qRead_small' hS1 hz.out (by omega) (by omega) (by have := hH.out; omega)
  clear hs1 hv1
  go_wp2_with (first
    | (go_at_call 255; (with_reducible refine hA.mono ?_); rintro e w2 ⟨rfl, hm2⟩; obtain ⟨hF2, S2, hS2, hn2⟩ := hm2)
    | (go_at_call 255; (with_reducible refine (qRead_small' hS2 (z := 32) (n := 32) rfl (by decide) (by decide) (by have := hH.out; omega)).mono ?_); rintro e w3 ⟨rfl, hm3⟩))
  go_ret2
  refine ⟨congrArg (fun z => Ending.returned (.tuple #[.int .u64 z, .nilIface])) (half_val c p n h1 hn), Moved.trans (hF1.same hF2) (fun x hx => (hn2 x hx).imp_right (Nat.le_trans hF1.size)) ?_⟩
  rw [show p + n = p + (n - 32) + 32 by omega]
  exact hm3

set_option maxRecDepth 100000 in
set_option maxHeartbeats 1000000 in
theorem qRead_not_big {B : Nat} {w : World} {rb bs : Nat} {c : Cfg} {p : Nat} {S : List Nat} (h : FastS B w rb bs c p S) (n : Nat) (h1 : 56 < n) (hn : n ≤ 64) (hp : 8 * c.lim.1 < p + n) (hl : wantE c.lim.2 ≠ 0) :
    Calls Tryz.prog 255 #[.pointer (some ⟨rb, 0, none⟩), .int .i64 n] w fun e w' => e = .returned (.tuple #[.int .u64 0, .iface (errT (wantE c.lim.2)) (.int .i64 (errN (wantE c.lim.2)))]) ∧ Moved (FastS B · rb bs c) w S p w' := by
  obtain ⟨fb, tk, m, ft, left, k, err, v, xs, h, rfl⟩ := h
  have hc := h.blk.cell
  have hn64 := h.n64
  have hpos := h.pos
  have hg0 : ((n : Int) == 0) = false := by simp; omega
  have hg1 : ¬ (64 : Int) < n := by omega
  have hg2 : (56 : Int) < n := by omega
  have hw : c.lim.1 < tk + ((m + 7) / 8 + (n + 7 - m) / 8) := by omega
  have hq : Hid ((((m + 7) / 8 : Nat) : Int) + ((n : Int) - (m : Int) + 7) / 8 = (((m + 7) / 8 + (n + 7 - m) / 8 : Nat) : Int)) := by unfold Hid; omega
  obtain ⟨hh, hlf⟩ := errV_leaf hl
  have hln := hlf.nnil
  clear hp hpos hlf
  go_enter Tryz.func255, Tryz.ntmps255
  go_wp2_with fail
  go_still_tail 18, (by kernel_rfl)
  go_wp2_with (go_at_call 242; refine (want_not (h.feed.drewN 1) hq.out hw hl).mono ?_; rintro e w1 ⟨rfl, hf1, ft1, l1, k1, e1, hle1, hv1⟩; have hs1 := (h.drewN 1).want hf1 hle1 hv1)
  go_ret2
  exact ⟨rfl, (Fr.drewN _ w 1).same (hf1.mono (fun k hk => .inl (sub2 hk))), _, ⟨fb, _, _, _, _, _, _, _, _, hs1, rfl⟩, fun x hx => .inl hx⟩

/-- Read: so many bits come. -/
theorem qRead_ok {B : Nat} {w : World} {rb bs : Nat} {c : Cfg} {p : Nat} {S : List Nat} (h : FastS B w rb bs c p S) (n : Nat) (hn : n ≤ 64) (hp : p + n ≤ 8 * c.lim.1) :
    Calls Tryz.prog 255 #[.pointer (some ⟨rb, 0, none⟩), .int .i64 n] w fun e w' => e = .returned (.tuple #[.int .u64 (c.bits p n), .nilIface]) ∧ Moved (FastS B · rb bs c) w S (p + n) w' := by
  by_cases h0 : n = 0
  · subst h0
    refine (qRead_zero w).mono ?_
    rintro e w' ⟨rfl, rfl⟩
    exact ⟨rfl, Fr.refl _ _, S, h, fun x hx => .inl hx⟩
  · by_cases h1 : n ≤ 56
    · exact qRead_small h n (by omega) h1 hp
    · exact qRead_big h n (by omega) hn hp
/-- Read: they do not. -/
theorem qRead_not {B : Nat} {w : World} {rb bs : Nat} {c : Cfg} {p : Nat} {S : List Nat} (h : FastS B w rb bs c p S) (n : Nat) (hn : n ≤ 64) (hp : 8 * c.lim.1 < p + n) (hl : wantE c.lim.2 ≠ 0) :
    Calls Tryz.prog 255 #[.pointer (some ⟨rb, 0, none⟩), .int .i64 n] w fun e w' => e = .returned (.tuple #[.int .u64 0, .iface (errT (wantE c.lim.2)) (.int .i64 (errN (wantE c.lim.2)))]) ∧ Moved (FastS B · rb bs c) w S p w' := by
  have h0 : 0 < n := by
    obtain ⟨fb, tk, m, ft, left, k, err, v, xs, h, rfl⟩ := h
    have := h.lim
    omega
  by_cases h1 : n ≤ 56
  · exact qRead_not_small h n h0 h1 hp hl
  · exact qRead_not_big h n (by omega) hn hp hl

theorem qRead_ok' {B : Nat} {w : World} {rb bs : Nat} {c : Cfg} {p : Nat} {S : List Nat} (h : FastS B w rb bs c p S) {z : Int} {n : Nat} (hz : z = (n : Int)) (hn : n ≤ 64) (hp : p + n ≤ 8 * c.lim.1) :
    Calls Tryz.prog 255 #[.pointer (some ⟨rb, 0, none⟩), .int .i64 z] w fun e w' => e = .returned (.tuple #[.int .u64 (c.bits p n), .nilIface]) ∧ Moved (FastS B · rb bs c) w S (p + n) w' := by
  subst hz; exact qRead_ok h n hn hp
set_option maxRecDepth 100000 in
set_option maxHeartbeats 1000000 in
theorem qAlign_any {B : Nat} {w : World} {rb bs : Nat} {c : Cfg} {p : Nat} {S : List Nat} (h : FastS B w rb bs c p S) :
    Calls Tryz.prog 253 #[.pointer (some ⟨rb, 0, none⟩)] w fun e w' => e = .returned (.tuple #[.bool (decide (c.bits p (toEnd p) = 0)), .nilIface]) ∧ Moved (FastS B · rb bs c) w S (p + toEnd p) w' := by
  have hS := h
  obtain ⟨fb, tk, n, ft, left, k, err, v, xs, h, rfl⟩ := h
  have hc := h.blk.cell
  have hn64 := h.n64
  have hpos := h.pos
  have hlm := h.lim
  have ht : Hid ((n : Int) % 8 = ((toEnd p : Nat) : Int)) := by
    have : toEnd p = n % 8 := by unfold toEnd; omega
    unfold Hid; rw [this]; omega
  have h64 : toEnd p ≤ 64 := by unfold toEnd; omega
  have hin : p + toEnd p ≤ 8 * c.lim.1 := by unfold toEnd; omega
  obtain ⟨x, hx⟩ : ∃ x, x = c.bits p (toEnd p) := ⟨_, rfl⟩
  rw [← hx]
  have hx' := Hid.mk hx
  have hcall := qRead_ok' hS ht.out h64 hin
  rw [← hx'.out] at hcall
  clear hx hpos hlm
  by_cases hx0 : x = 0
  · subst hx0
    go_enter Tryz.func253, Tryz.ntmps253
    go_wp2_with (go_at_call 255; refine hcall.mono ?_; rintro e w1 ⟨rfl, hm⟩)
    go_ret2
    exact ⟨rfl, hm⟩
  · have hxe : ((x : Int) == 0) = false := by simp; omega
    have hxd : decide (x = 0) = false := decide_eq_false hx0
    rw [hxd]
    go_enter Tryz.func253, Tryz.ntmps253
    go_wp2_with (go_at_call 255; refine hcall.mono ?_; rintro e w1 ⟨rfl, hm⟩)
    go_ret2
    exact ⟨rfl, hm⟩
end Go.Proofs.YthigfpaajbejdaaGreatDoor
