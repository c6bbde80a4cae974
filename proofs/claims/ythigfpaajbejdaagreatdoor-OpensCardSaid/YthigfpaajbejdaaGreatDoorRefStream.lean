/-
  flacpairref.Stream, walked: bits one by one.
-/
import Derived.Test.YthigfpaajbejdaaGreatDoorSlow
import Derived.IntWalk
namespace Go.Proofs.YthigfpaajbejdaaGreatDoor
open Go.RowKit

/-- The document's stream stands in block sb, p bits read. -/
def StreamB (w : World) (sb : Nat) (c : Cfg) (p : Nat) : Prop := Blk w sb #[.string (c.text.extract 0 c.lim.1), .int .i64 c.lim.2, .int .i64 p] 118
/-- Where the source comes to lies in the text. -/
structure LimOk (c : Cfg) : Prop where
  len : c.lim.1 ≤ c.len
  small : c.len ≤ 1048576
  stop : c.lim.2 = 1 ∨ c.lim.2 = 14 ∨ c.lim.2 = 16
theorem LimOk.size {c : Cfg} (h : LimOk c) : (c.text.extract 0 c.lim.1).size = c.lim.1 := by
  have := h.len
  unfold Cfg.len at this
  rw [ByteArray.size_extract]; omega
theorem StreamB.drewN {w : World} {sb : Nat} {c : Cfg} {p : Nat} (h : StreamB w sb c p) (n : Nat) : StreamB (w.drewN n) sb c p := Blk.drewN h n
theorem StreamB.blk {w : World} {sb : Nat} {c : Cfg} {p : Nat} (h : StreamB w sb c p) : Blk w sb #[.string (c.text.extract 0 c.lim.1), .int .i64 c.lim.2, .int .i64 p] 118 := h

set_option maxRecDepth 100000 in
set_option maxHeartbeats 400000 in
theorem there_ok {w : World} {sb : Nat} {c : Cfg} {p : Nat} (hk : LimOk c) (h : StreamB w sb c p) (n : Nat) (hn : n ≤ 64) (hp : p + n ≤ 8 * c.lim.1) :
    Calls Tryz.prog 67 #[.pointer (some ⟨sb, 0, none⟩), .int .i64 n] w fun e w' => e = .returned (.int .i64 0) ∧ ∃ n, w' = w.drewN n := by
  have hc := h.blk.cell
  have hsz := hk.size
  have hl := hk.len
  have hs := hk.small
  have e1 : IntKind.i64.wrap ((p : Int) + (n : Int)) = (p : Int) + (n : Int) := IntWalk.i64_in _ (by omega)
  have e2 : IntKind.i64.wrap (8 * (c.lim.1 : Int)) = 8 * (c.lim.1 : Int) := IntWalk.i64_in _ (by omega)
  have hle : (p : Int) + (n : Int) ≤ 8 * (c.lim.1 : Int) := by omega
  clear hp
  go_enter Tryz.func67, Tryz.ntmps67
  go_wp2_with fail
  go_quiet (fail)
  clear e1 e2
  go_wp2_with fail
  go_ret
  exact ⟨rfl, nq, rfl⟩
set_option maxRecDepth 100000 in
set_option maxHeartbeats 400000 in
theorem there_not {w : World} {sb : Nat} {c : Cfg} {p : Nat} (hk : LimOk c) (h : StreamB w sb c p) (n : Nat) (hn : n ≤ 64) (hp0 : p ≤ 8 * c.lim.1) (hp : 8 * c.lim.1 < p + n) :
    Calls Tryz.prog 67 #[.pointer (some ⟨sb, 0, none⟩), .int .i64 n] w fun e w' => e = .returned (.int .i64 (wantE c.lim.2)) ∧ ∃ n, w' = w.drewN n := by
  have hc := h.blk.cell
  have hsz := hk.size
  have hl := hk.len
  have hs := hk.small
  have e1 : IntKind.i64.wrap ((p : Int) + (n : Int)) = (p : Int) + (n : Int) := IntWalk.i64_in _ (by omega)
  have e2 : IntKind.i64.wrap (8 * (c.lim.1 : Int)) = 8 * (c.lim.1 : Int) := IntWalk.i64_in _ (by omega)
  have hle : ¬ (p : Int) + (n : Int) ≤ 8 * (c.lim.1 : Int) := by omega
  clear hp
  generalize hst : c.lim.2 = st at *
  by_cases h1 : st = 1
  · subst h1
    have hst' := Hid.mk hst
    clear hst
    go_enter Tryz.func67, Tryz.ntmps67
    go_wp2_with fail
    go_quiet (fail)
    clear e1 e2
    have hc2 := (Blk.drewN h nq).cell
    rw [hst'.out] at hc2
    go_wp2_with fail
    go_ret
    exact ⟨rfl, nq, rfl⟩
  · have hst' := Hid.mk hst
    have hne : ((st : Int) == 1) = false := by simp; omega
    have hw : Hid (wantE st = st) := by unfold Hid wantE; rw [if_neg h1]
    clear hst
    go_enter Tryz.func67, Tryz.ntmps67
    go_wp2_with fail
    go_quiet (fail)
    clear e1 e2
    have hc2 := (Blk.drewN h nq).cell
    rw [hst'.out] at hc2
    go_wp2_with fail
    go_ret
    exact ⟨by rw [hw.out]; rfl, nq, rfl⟩

/-- How many bits are left of a byte. -/
def toEnd' (p : Nat) : Nat := (8 - p % 8) % 8
theorem shr_nat (x k : Nat) : ((x : Int) / 2 ^ k) = ((x / 2 ^ k : Nat) : Int) := by
  rw [show ((2 : Int) ^ k) = ((2 ^ k : Nat) : Int) by simp]; rfl
theorem i64_bit (b m : Nat) (hb : b < 256) : bits .and .i64 ((b : Int) / 2 ^ m) 1 = ((b / 2 ^ m % 2 : Nat) : Int) := by
  have hle : b / 2 ^ m ≤ b := Nat.div_le_self _ _
  rw [shr_nat]
  generalize b / 2 ^ m = x at *
  have : ∀ x : Nat, x < 256 → bits .and .i64 (x : Int) 1 = ((x % 2 : Nat) : Int) := by decide +kernel
  exact this x (by omega)
set_option maxRecDepth 100000 in
set_option maxHeartbeats 400000 in
theorem rbit_any {w : World} {sb : Nat} {c : Cfg} {p : Nat} (hk : LimOk c) (h : StreamB w sb c p) (hp : p < 8 * c.lim.1) :
    Calls Tryz.prog 110 #[.pointer (some ⟨sb, 0, none⟩)] w fun e w' => e = .returned (.int .i64 (c.bit p)) ∧ StreamB w' sb c (p + 1) ∧ Fr [sb] w w' := by
  have hc := h.blk.cell
  have hz := h.blk.frozen
  have hsz := hk.size
  have hl := hk.len
  have hs := hk.small
  have hq0 : (0 : Int) ≤ (p : Int) / 8 := by omega
  have hq1 : (p : Int) / 8 < (c.lim.1 : Int) := by omega
  have hqn : ((p : Int) / 8).toNat = p / 8 := by omega
  have e3 : IntKind.i64.wrap ((p : Int).tdiv 8) = (p : Int) / 8 := by
    rw [show (p : Int).tdiv 8 = (p : Int) / 8 from Int.tdiv_eq_ediv_of_nonneg (by omega)]; exact IntWalk.i64_in _ (by omega)
  have hb1 := c.byte_lt (p / 8)
  have hp8 : p < 8388608 := by omega
  have hpc : ∀ h : p / 8 < (c.text.extract 0 c.lim.1).size, ((c.text.extract 0 c.lim.1)[p / 8]'h).toNat = c.byte (p / 8) := by
    intro h
    have := piece_at c.text 0 c.lim.1 (p / 8) (by omega) hl h
    rw [this, Nat.zero_add]; rfl
  go_enter Tryz.func110, Tryz.ntmps110
  go_wp2_with fail
  go_quiet (fail)
  have hb := Blk.drewN h nq
  have hcq := hb.cell
  have hzq := hb.frozen
  clear e3
  go_wp2_with fail
  go_ret
  refine ⟨congrArg (fun z => Ending.returned (.int .i64 z)) ?_, hb.set 2 _, (Fr.drewN _ w nq).set' _ (by simp)⟩
  exact i64_bit _ _ hb1

theorem one_of {w : World} {sb : Nat} {c : Cfg} {p : Nat} (hk : LimOk c) (h : StreamB w sb c p) (hp : p + 1 ≤ 8 * c.lim.1) :
    Calls Tryz.prog 67 #[.pointer (some ⟨sb, 0, none⟩), .int .i64 1] w fun e w' => e = .returned (.int .i64 0) ∧ ∃ n, w' = w.drewN n := there_ok hk h 1 (by decide) hp
theorem one_not {w : World} {sb : Nat} {c : Cfg} {p : Nat} (hk : LimOk c) (h : StreamB w sb c p) (hp0 : p ≤ 8 * c.lim.1) (hp : 8 * c.lim.1 < p + 1) :
    Calls Tryz.prog 67 #[.pointer (some ⟨sb, 0, none⟩), .int .i64 1] w fun e w' => e = .returned (.int .i64 (wantE c.lim.2)) ∧ ∃ n, w' = w.drewN n := there_not hk h 1 (by decide) hp0 hp

/-- Numbers of 64 bits go around. -/
def around (n : Nat) : Int := wrap64 (n : Int)
theorem around_small {n : Nat} (h : n < 9223372036854775808) : around n = n := IntWalk.wrap64_in _ (by omega)
theorem around_step (v b : Nat) : wrap64 (wrap64 (2 * around v) + (b : Int)) = around (2 * v + b) := by
  unfold around wrap64
  omega

set_option maxRecDepth 100000 in
set_option maxHeartbeats 1000000 in
theorem rRead_arg {sb : Nat} (n : Int) (hn : n < 0 ∨ 64 < n) (w : World) :
    Calls Tryz.prog 77 #[.pointer (some ⟨sb, 0, none⟩), .int .i64 n] w fun e w' => e = .returned (.tuple #[.int .i64 0, .int .i64 15]) ∧ w = w' := by
  have h1 : n < 0 ∨ (¬ n < 0 ∧ 64 < n) := by omega
  rcases h1 with h1 | ⟨h1, h2⟩
  all_goals
    go_enter Tryz.func77, Tryz.ntmps77
    go_wp2_with fail
    go_ret2
    exact ⟨rfl, rfl⟩
set_option maxRecDepth 100000 in
set_option maxHeartbeats 1000000 in
theorem rRead_not {w : World} {sb : Nat} {c : Cfg} {p : Nat} (hk : LimOk c) (h : StreamB w sb c p) (n : Nat) (hn : n ≤ 64) (hp0 : p ≤ 8 * c.lim.1) (hp : 8 * c.lim.1 < p + n) :
    Calls Tryz.prog 77 #[.pointer (some ⟨sb, 0, none⟩), .int .i64 n] w fun e w' => e = .returned (.tuple #[.int .i64 0, .int .i64 (wantE c.lim.2)]) ∧ StreamB w' sb c p ∧ Fr [sb] w w' := by
  have hg1 : ¬ (64 : Int) < n := by omega
  have hl := (wantE_ne hk.stop).1
  have hcall := there_not hk h n hn hp0 hp
  generalize wantE c.lim.2 = e0 at *
  have hne : ((e0 : Int) != 0) = true := by simpa using hl
  clear hp hl
  go_enter Tryz.func77, Tryz.ntmps77
  go_wp2_with (go_at_call 67; refine hcall.mono ?_; rintro e w1 ⟨rfl, n1, rfl⟩)
  go_ret2
  exact ⟨rfl, h.drewN _, Fr.drewN _ _ _⟩
set_option maxRecDepth 100000 in
set_option maxHeartbeats 1000000 in
theorem rRead_ok {w : World} {sb : Nat} {c : Cfg} {p : Nat} (hk : LimOk c) (h : StreamB w sb c p) (n : Nat) (hn : n ≤ 64) (hp : p + n ≤ 8 * c.lim.1) :
    Calls Tryz.prog 77 #[.pointer (some ⟨sb, 0, none⟩), .int .i64 n] w fun e w' => e = .returned (.tuple #[.int .i64 (around (c.bits p n)), .int .i64 0]) ∧ StreamB w' sb c (p + n) ∧ Fr [sb] w w' := by
  have hg1 : ¬ (64 : Int) < n := by omega
  have hcall := there_ok hk h n hn hp
  have hH := Hid.mk hp
  clear hp
  go_enter Tryz.func77, Tryz.ntmps77
  go_wp2_with (go_at_call 67; refine hcall.mono ?_; rintro e w1 ⟨rfl, n1, rfl⟩)
  go_loopg [7, 8] n (fun g s7 s8 wx => ∃ i : Nat, g = n - i ∧ i ≤ n ∧ s7 = .int .i64 (around (c.bits p i)) ∧ s8 = .int .i64 i ∧ StreamB wx sb c (p + i) ∧ Fr [sb] w wx)
  case atStart => exact ⟨0, rfl, Nat.zero_le _, congrArg (Value.int .i64) ((around_small (n := 0) (by decide)).symm : (0 : Int) = around (c.bits p 0)), rfl, h.drewN _, Fr.drewN _ _ _⟩
  case round =>
    obtain ⟨i, hg, hi, rfl, rfl, hs, hF⟩ := hrel
    have hG := Hid.mk hg
    clear hg
    by_cases hlt : i < n
    · have hlt' : (i : Int) < (n : Int) := by omega
      go_wp2_with (go_at_call 110; refine (rbit_any hk hs (by have := hH.out; omega)).mono ?_; rintro e w2 ⟨rfl, hs2, hf2⟩)
      go_roundg (n - (i + 1))
      case measure => have := hG.out; omega
      case rel =>
        refine ⟨i + 1, rfl, by omega, ?_, by go_num, hs2, hF.same hf2⟩
        exact congrArg (fun z => Value.int .i64 z) (around_step (c.bits p i) (c.bit (p + i)))
    · obtain rfl : n = i := by omega
      have hlt' : ¬ (n : Int) < (n : Int) := by omega
      go_wp2_with fail
      go_ret2
      exact ⟨rfl, hs, hF⟩

set_option maxRecDepth 100000 in
set_option maxHeartbeats 1000000 in
theorem rUnary_ok {w : World} {sb : Nat} {c : Cfg} {p : Nat} (hk : LimOk c) (h : StreamB w sb c p) (n : Nat) (hu : c.una p n) (hp : p + n < 8 * c.lim.1) :
    Calls Tryz.prog 73 #[.pointer (some ⟨sb, 0, none⟩)] w fun e w' => e = .returned (.tuple #[.int .i64 n, .int .i64 0]) ∧ StreamB w' sb c (p + n + 1) ∧ Fr [sb] w w' := by
  have hc := h.blk.cell
  have hl := hk.len
  have hs := hk.small
  have hn16 : n < 16777216 := by omega
  have hH : Hid (c.una p n ∧ p + n < 8 * c.lim.1) := ⟨hu, hp⟩
  clear hu hp hl hs
  go_enter Tryz.func73, Tryz.ntmps73
  go_wp2_with fail
  go_loopg [5] n (fun g s5 wx => ∃ i : Nat, g = n - i ∧ i ≤ n ∧ s5 = .int .i64 i ∧ StreamB wx sb c (p + i) ∧ Fr [sb] w wx)
  case atStart => exact ⟨0, rfl, Nat.zero_le _, rfl, h, Fr.refl _ _⟩
  case round =>
    obtain ⟨i, hg, hi, rfl, hs, hF⟩ := hrel
    have hG := Hid.mk hg
    clear hg
    by_cases hlt : i < n
    · have hz := Hid.mk (c.bit_of_zero p n i hlt hH.out.1.1)
      go_wp2_with (first
        | (go_at_call 67; refine (one_of hk hs (by have := hH.out; omega)).mono ?_; rintro e w1 ⟨rfl, n1, rfl⟩; have hs1 := hs.drewN n1)
        | (go_at_call 110; refine (rbit_any hk hs1 (by have := hH.out; omega)).mono ?_; rw [hz.out]; rintro e w2 ⟨rfl, hs2, hf2⟩))
      go_roundg (n - (i + 1))
      case measure => have := hG.out; omega
      case rel => exact ⟨i + 1, rfl, by omega, by go_num, hs2, (hF.drewN' _).same hf2⟩
    · obtain rfl : n = i := by omega
      have hz := Hid.mk hH.out.1.2
      go_wp2_with (first
        | (go_at_call 67; refine (one_of hk hs (by have := hH.out; omega)).mono ?_; rintro e w1 ⟨rfl, n1, rfl⟩; have hs1 := hs.drewN n1)
        | (go_at_call 110; refine (rbit_any hk hs1 (by have := hH.out; omega)).mono ?_; rw [hz.out]; rintro e w2 ⟨rfl, hs2, hf2⟩))
      go_ret2
      exact ⟨rfl, hs2, (hF.drewN' _).same hf2⟩
set_option maxRecDepth 100000 in
set_option maxHeartbeats 1000000 in
theorem rUnary_not {w : World} {sb : Nat} {c : Cfg} {p : Nat} (hk : LimOk c) (h : StreamB w sb c p) (hp0 : p ≤ 8 * c.lim.1) (hu : c.bits p (8 * c.lim.1 - p) = 0) :
    Calls Tryz.prog 73 #[.pointer (some ⟨sb, 0, none⟩)] w fun e w' => e = .returned (.tuple #[.int .i64 0, .int .i64 (wantE c.lim.2)]) ∧ StreamB w' sb c p ∧ Fr [sb] w w' := by
  have hc := h.blk.cell
  have hl := hk.len
  have hs := hk.small
  have hwe := (wantE_ne hk.stop).1
  obtain ⟨n, hn⟩ : ∃ n, n = 8 * c.lim.1 - p := ⟨_, rfl⟩
  rw [← hn] at hu
  have hn16 : n < 16777216 := by omega
  have hH : Hid (c.bits p n = 0 ∧ p + n = 8 * c.lim.1) := ⟨hu, by omega⟩
  have hnot := fun (W : World) (hS : StreamB W sb c (p + n)) => one_not hk hS (Nat.le_of_eq hH.out.2) (by have := hH.out; omega)
  generalize wantE c.lim.2 = e0 at *
  have hne : ((e0 : Int) != 0) = true := by simpa using hwe
  have hN := Hid.mk hnot
  clear hu hn hl hs hwe hnot
  go_enter Tryz.func73, Tryz.ntmps73
  go_wp2_with fail
  go_loopg [5] n (fun g s5 wx => ∃ i : Nat, g = n - i ∧ i ≤ n ∧ s5 = .int .i64 i ∧ StreamB wx sb c (p + i) ∧ Fr [sb] w wx)
  case atStart => exact ⟨0, rfl, Nat.zero_le _, rfl, h, Fr.refl _ _⟩
  case round =>
    obtain ⟨i, hg, hi, rfl, hs, hF⟩ := hrel
    have hG := Hid.mk hg
    clear hg
    by_cases hlt : i < n
    · have hz := Hid.mk (c.bit_of_zero p n i hlt hH.out.1)
      go_wp2_with (first
        | (go_at_call 67; refine (one_of hk hs (by have := hH.out; omega)).mono ?_; rintro e w1 ⟨rfl, n1, rfl⟩; have hs1 := hs.drewN n1)
        | (go_at_call 110; refine (rbit_any hk hs1 (by have := hH.out; omega)).mono ?_; rw [hz.out]; rintro e w2 ⟨rfl, hs2, hf2⟩))
      go_roundg (n - (i + 1))
      case measure => have := hG.out; omega
      case rel => exact ⟨i + 1, rfl, by omega, by go_num, hs2, (hF.drewN' _).same hf2⟩
    · obtain rfl : i = n := by omega
      go_wp2_with (go_at_call 67; refine (hN.out _ hs).mono ?_; rintro e w1 ⟨rfl, n1, rfl⟩; have hs1 := hs.drewN n1; have hc1 := hs1.blk.cell; have hz1 := hs1.blk.frozen)
      go_ret2
      exact ⟨rfl, hs1.blk.set 2 _, (hF.drewN' _).set' _ (by simp)⟩

theorem rRead_ok' {w : World} {sb : Nat} {c : Cfg} {p : Nat} (hk : LimOk c) (h : StreamB w sb c p) {z : Int} {n : Nat} (hz : z = (n : Int)) (hn : n ≤ 64) (hp : p + n ≤ 8 * c.lim.1) :
    Calls Tryz.prog 77 #[.pointer (some ⟨sb, 0, none⟩), .int .i64 z] w fun e w' => e = .returned (.tuple #[.int .i64 (around (c.bits p n)), .int .i64 0]) ∧ StreamB w' sb c (p + n) ∧ Fr [sb] w w' := by
  subst hz; exact rRead_ok hk h n hn hp
set_option maxRecDepth 100000 in
set_option maxHeartbeats 1000000 in
theorem rAlign_any {w : World} {sb : Nat} {c : Cfg} {p : Nat} (hk : LimOk c) (h : StreamB w sb c p) (hp0 : p ≤ 8 * c.lim.1) :
    Calls Tryz.prog 75 #[.pointer (some ⟨sb, 0, none⟩)] w fun e w' => e = .returned (.tuple #[.bool (decide (c.bits p (toEnd' p) = 0)), .int .i64 0]) ∧ StreamB w' sb c (p + toEnd' p) ∧ Fr [sb] w w' := by
  have hc := h.blk.cell
  have hl := hk.len
  have hs := hk.small
  have hp23 : p < 16777216 := by omega
  have h64 : toEnd' p ≤ 64 := by unfold toEnd'; omega
  have hin : p + toEnd' p ≤ 8 * c.lim.1 := by unfold toEnd'; omega
  have hb := c.bits_lt p (toEnd' p)
  have hb7 : c.bits p (toEnd' p) < 9223372036854775808 := Nat.lt_of_lt_of_le hb (Nat.pow_le_pow_right (n := 2) (by decide) (show toEnd' p ≤ 63 by unfold toEnd'; omega))
  have hz : (8 - (p : Int) % 8) % 8 = ((toEnd' p : Nat) : Int) := by unfold toEnd'; omega
  have hcall := rRead_ok hk h (toEnd' p) h64 hin
  rw [around_small hb7] at hcall
  have hz2 : -((p : Int) % 8) % 8 = (8 - (p : Int) % 8) % 8 := by omega
  generalize c.bits p (toEnd' p) = x at *
  clear hb hb7 hl hs hin
  by_cases hx0 : x = 0
  · subst hx0
    go_enter Tryz.func75, Tryz.ntmps75
    go_wp2_with (go_at_call 77; refine hcall.mono ?_; rintro e w1 ⟨rfl, hs1, hf1⟩)
    go_ret2
    exact ⟨rfl, hs1, hf1⟩
  · have hxe : ((x : Int) == 0) = false := by simp; omega
    have hxd : decide (x = 0) = false := decide_eq_false hx0
    rw [hxd]
    go_enter Tryz.func75, Tryz.ntmps75
    go_wp2_with (go_at_call 77; refine hcall.mono ?_; rintro e w1 ⟨rfl, hs1, hf1⟩)
    go_ret2
    exact ⟨rfl, hs1, hf1⟩
set_option maxHeartbeats 400000 in
theorem rAt_any {w : World} {sb : Nat} {c : Cfg} {p : Nat} (h : StreamB w sb c p) :
    Calls Tryz.prog 71 #[.pointer (some ⟨sb, 0, none⟩)] w fun e w' => e = .returned (.int .i64 p) ∧ w = w' := by
  have hc := h.blk.cell
  go_enter Tryz.func71, Tryz.ntmps71
  go_wp2
  go_ret
  exact ⟨rfl, rfl⟩
end Go.Proofs.YthigfpaajbejdaaGreatDoor
