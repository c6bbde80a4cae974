/-
  bitio.slow, walked.
-/
import Derived.Test.YthigfpaajbejdaaGreatDoorBitsPlain
namespace Go.Proofs.YthigfpaajbejdaaGreatDoor
open Go.RowKit

section
variable {B : Nat} {w w' : World} {fb bs : Nat} {c : Cfg} {tk ft left k err emp : Nat} {v : Value} {xs : List Value}
theorem FeedV.keep {S : List Nat} (h : FeedV B w fb bs c tk ft left k err emp v xs) (hf : Fr S w w') (h1 : fb ∉ S) (h2 : bs ∉ S) (h3 : ∀ g, v.ownBlock = some g → g ∉ S) (h4 : ∀ x ∈ S, B ≤ x) : FeedV B w' fb bs c tk ft left k err emp v xs :=
  ⟨hf.blk h.blk h1, h.src.keep hf h2 h4, own_keep h.own hf h3, h.above, h.le, h.goes, h.errok, h.few⟩
theorem FeedV.still (h : FeedV B w fb bs c tk ft left k err emp v xs) (hf : Fr [] w w') : FeedV B w' fb bs c tk ft left k err emp v xs := h.keep hf (by simp) (by simp) (by simp) (by simp)
theorem FeedV.drewN (h : FeedV B w fb bs c tk ft left k err emp v xs) (n : Nat) : FeedV B (w.drewN n) fb bs c tk ft left k err emp v xs := h.still (Fr.drewN [] w n)
/-- The blocks that the feed's bytes lie in are at least B. -/
theorem FeedV.own_above (h : FeedV B w fb bs c tk ft left k err emp v xs) : ∀ g ∈ v.ownBlock.toList, B ≤ g := fun g hg => by
  have hg' : v.ownBlock = some g := by simpa using hg
  rcases h.own.2 with ⟨rfl, _⟩ | ⟨g0, cap, cur, rfl, hb, _⟩
  · cases hg'
  · have : g0 = g := Option.some.inj hg'
    exact this ▸ hb
end

/-- A slow reader stands in block rb, over the feed in block fb, kk bits of the byte that comes next done with. -/
structure SlowV (B : Nat) (w : World) (rb fb bs : Nat) (c : Cfg) (tk kk ft left k err : Nat) (v : Value) (xs : List Value) : Prop where
  blk : Blk w rb #[.pointer (some ⟨fb, 0, none⟩), .int .i64 kk] 232
  feed : FeedV B w fb bs c tk ft left k err 0 v xs
  above : B ≤ rb
  lt : kk < 8

section
variable {B : Nat} {w w' : World} {rb fb bs : Nat} {c : Cfg} {tk kk ft left k err : Nat} {v : Value} {xs : List Value}
theorem SlowV.still (h : SlowV B w rb fb bs c tk kk ft left k err v xs) (hf : Fr [] w w') : SlowV B w' rb fb bs c tk kk ft left k err v xs := ⟨hf.blk h.blk (by simp), h.feed.still hf, h.above, h.lt⟩
theorem SlowV.drewN (h : SlowV B w rb fb bs c tk kk ft left k err v xs) (n : Nat) : SlowV B (w.drewN n) rb fb bs c tk kk ft left k err v xs := h.still (Fr.drewN [] w n)
theorem SlowV.ne_fb (h : SlowV B w rb fb bs c tk kk ft left k err v xs) : rb ≠ fb := h.blk.ne h.feed.blk (by decide)
theorem SlowV.ne_bs (h : SlowV B w rb fb bs c tk kk ft left k err v xs) : rb ≠ bs := by
  obtain ⟨a, cap, hb, _⟩ := h.feed.src.row
  exact h.blk.ne hb (by decide)
theorem SlowV.ne_own (h : SlowV B w rb fb bs c tk kk ft left k err v xs) : v.ownBlock ≠ some rb := own_ne h.feed.own h.blk (by decide)
theorem SlowV.size (h : SlowV B w rb fb bs c tk kk ft left k err v xs) : B ≤ w.heap.size := Nat.le_of_lt (Nat.lt_of_le_of_lt h.above h.blk.lt)
end

theorem peek_int {B : Nat} {w : World} {fb bs : Nat} {c : Cfg} {tk ft left k err emp : Nat} {v : Value} {xs : List Value} (h : FeedV B w fb bs c tk ft left k err emp v xs) {z : Int} {i : Nat} (hz : z = (i : Int)) (hi : tk + i < ft) :
    Calls Tryz.prog 251 #[.pointer (some ⟨fb, 0, none⟩), .int .i64 z] w fun e w' => e = .returned (.int .u8 (c.byte (tk + i))) ∧ w = w' := by
  subst hz; exact peek_any h i hi

theorem bit_val (b m : Nat) (hb : b < 256) : bits .and .u64 (IntKind.u64.wrap ((b : Int) / 2 ^ m)) 1 = ((b / 2 ^ m % 2 : Nat) : Int) := by
  have e : ((b : Int) / 2 ^ m) = ((b / 2 ^ m : Nat) : Int) := by simp
  have hle : b / 2 ^ m ≤ b := Nat.div_le_self _ _
  rw [e, IntKind.wrap_u64]
  generalize b / 2 ^ m = x at *
  rw [show ((x : Int) % 18446744073709551616) = (x : Int) by omega]
  exact (u64_and_nat x 1 (by omega) (by decide)).trans (by rw [nat_mask1])
set_option maxRecDepth 100000 in
set_option maxHeartbeats 1000000 in
theorem ahead_any {B : Nat} {w : World} {rb fb bs : Nat} {c : Cfg} {tk kk ft left k err : Nat} {v : Value} {xs : List Value} (h : SlowV B w rb fb bs c tk kk ft left k err v xs) (i : Nat) (hi : tk + (i + kk) / 8 < ft) :
    Calls Tryz.prog 249 #[.pointer (some ⟨rb, 0, none⟩), .int .i64 i] w fun e w' => e = .returned (.int .u64 (c.bit (8 * tk + (i + kk)))) ∧ w = w' := by
  have hc := h.blk.cell
  have hk8 := h.lt
  have hft := h.feed.ft_le
  have hi2 : i < 16777216 := by omega
  go_enter Tryz.func249, Tryz.ntmps249
  have hq : Hid (((i : Int) + (kk : Int)) / 8 = (((i + kk) / 8 : Nat) : Int)) := by unfold Hid; omega
  have hB1 := c.byte_lt (tk + (i + kk) / 8)
  go_wp2_with (go_at_call 251; refine (peek_int h.feed hq.out hi).mono ?_; rintro e w1 ⟨rfl, rfl⟩)
  go_ret
  refine ⟨congrArg (fun z => Ending.returned (.int .u64 z)) ?_, rfl⟩
  rw [bit_val _ _ hB1, Cfg.bit_at]

theorem ahead_is {B : Nat} {w : World} {rb fb bs : Nat} {c : Cfg} {tk kk ft left k err : Nat} {v : Value} {xs : List Value} (h : SlowV B w rb fb bs c tk kk ft left k err v xs) (i : Nat) (hi : tk + (i + kk) / 8 < ft) (b : Int) (hb : (c.bit (8 * tk + (i + kk)) : Int) = b) :
    Calls Tryz.prog 249 #[.pointer (some ⟨rb, 0, none⟩), .int .i64 i] w fun e w' => e = .returned (.int .u64 b) ∧ w = w' := by
  subst hb; exact ahead_any h i hi

theorem take_int {B : Nat} {w : World} {fb bs : Nat} {c : Cfg} {tk ft left k err : Nat} {v : Value} {xs : List Value} (h : FeedV B w fb bs c tk ft left k err 0 v xs) {z : Int} {n : Nat} (hz : z = (n : Int)) (hn : tk + n ≤ ft) (hB : B ≤ w.heap.size) :
    Calls Tryz.prog 252 #[.pointer (some ⟨fb, 0, none⟩), .int .i64 z] w fun e w' => e = .returned (.string (c.text.extract tk (tk + n))) ∧ Fr (fb :: v.ownBlock.toList) w w' ∧
      ∃ v' xs', FeedV B w' fb bs c (tk + n) ft left k err 0 v' xs' ∧ (∀ g, v'.ownBlock = some g → v.ownBlock = some g ∨ w.heap.size ≤ g) := by
  subst hz; exact take_any h n hn hB

set_option maxRecDepth 100000 in
set_option maxHeartbeats 1000000 in
theorem skip_any {B : Nat} {w : World} {rb fb bs : Nat} {c : Cfg} {tk kk ft left k err : Nat} {v : Value} {xs : List Value} (h : SlowV B w rb fb bs c tk kk ft left k err v xs) (n : Nat) (hi : tk + (n + kk) / 8 ≤ ft) :
    Calls Tryz.prog 250 #[.pointer (some ⟨rb, 0, none⟩), .int .i64 n] w fun e w' => e = .returned (.tuple #[]) ∧ Fr (rb :: fb :: v.ownBlock.toList) w w' ∧
      ∃ v' xs', SlowV B w' rb fb bs c (tk + (n + kk) / 8) ((n + kk) % 8) ft left k err v' xs' ∧ (∀ g, v'.ownBlock = some g → v.ownBlock = some g ∨ w.heap.size ≤ g) := by
  have hc := h.blk.cell
  have hk8 := h.lt
  have hft := h.feed.ft_le
  have hi2 : n < 16777216 := by omega
  have hni : rb ∉ fb :: v.ownBlock.toList := by
    rw [List.mem_cons]; rintro (e | e)
    · exact h.ne_fb e
    · exact h.ne_own (by simpa using e)
  have hq : Hid (((n : Int) + (kk : Int)) / 8 = (((n + kk) / 8 : Nat) : Int)) := by unfold Hid; omega
  go_enter Tryz.func250, Tryz.ntmps250
  go_wp2_with (go_at_call 252; refine (take_int h.feed hq.out hi h.size).mono ?_; rintro e w1 ⟨rfl, hf1, v1, xs1, hv1, hn1⟩; have hb1 := hf1.blk h.blk hni; have hc1 := hb1.cell; have hz1 := hb1.frozen)
  go_end0
  have hF : Fr (rb :: fb :: v.ownBlock.toList) w w1 := hf1.mono (fun k hk => .inl (List.mem_cons_of_mem _ hk))
  refine ⟨rfl, hF.set' _ (List.mem_cons_self ..), v1, xs1, ⟨?_, hv1.keep (S := [rb]) (Fr.set _ (List.mem_singleton.2 rfl)) ?_ ?_ ?_ ?_, h.above, Nat.mod_lt _ (by decide)⟩, hn1⟩
  · exact hb1.set 1 _
  · simpa using h.ne_fb.symm
  · simpa using h.ne_bs.symm
  · intro g hg he
    have := own_ne hv1.own hb1 (by decide)
    rw [hg] at this
    simp at he; exact this (congrArg some he)
  · simpa using h.above

set_option maxRecDepth 100000 in
set_option maxHeartbeats 1000000 in
theorem sAt_any {B : Nat} {w : World} {rb fb bs : Nat} {c : Cfg} {tk kk ft left k err : Nat} {v : Value} {xs : List Value} (h : SlowV B w rb fb bs c tk kk ft left k err v xs) :
    Calls Tryz.prog 245 #[.pointer (some ⟨rb, 0, none⟩)] w fun e w' => e = .returned (.int .i64 (8 * tk + kk : Nat)) ∧ ∃ n, w' = w.drewN n := by
  have hc := h.blk.cell
  have hk8 := h.lt
  have hle := h.feed.le
  have hft := h.feed.ft_le
  go_enter Tryz.func245, Tryz.ntmps245
  go_wp2_with fail
  go_quiet ((go_at_call 248; exact quiet_eq (taken_any (h.feed.drewN _))))
  go_wp2_with fail
  go_ret
  exact ⟨rfl, nq, rfl⟩

/-- A slow reader in block rb, over the source in block bs, p bits read; S: the blocks that are its own. -/
def SlowS (B : Nat) (w : World) (rb bs : Nat) (c : Cfg) (p : Nat) (S : List Nat) : Prop :=
  ∃ fb tk kk ft left k err v xs, SlowV B w rb fb bs c tk kk ft left k err v xs ∧ p = 8 * tk + kk ∧ p ≤ 8 * c.lim.1 ∧ S = rb :: fb :: bs :: v.ownBlock.toList
/-- What a call leaves: the reader at bit p; its own blocks are those of old, or new. -/
def Moved (St : World → Nat → List Nat → Prop) (w : World) (S : List Nat) (p : Nat) (w' : World) : Prop := Fr S w w' ∧ ∃ S', St w' p S' ∧ ∀ x ∈ S', x ∈ S ∨ w.heap.size ≤ x

theorem want_int {B : Nat} {w : World} {fb bs : Nat} {c : Cfg} {tk ft left k err : Nat} {v : Value} {xs : List Value} (h : FeedV B w fb bs c tk ft left k err 0 v xs) {z : Int} {n : Nat} (hz : z = (n : Int)) (hn : tk + n ≤ c.lim.1) :
    Calls Tryz.prog 242 #[.pointer (some ⟨fb, 0, none⟩), .int .i64 z, .bool true] w fun e w' => e = .returned .nilIface ∧ Fr [fb, bs] w w' ∧ ∃ ft' left k err, ft ≤ ft' ∧ tk + n ≤ ft' ∧ FeedV B w' fb bs c tk ft' left k err 0 v xs := by
  subst hz
  refine (want_any h n).mono ?_
  rintro e w' ⟨hf, ft', l', k', e', hle, hv, ⟨h1, h2, rfl⟩ | ⟨h1, _⟩⟩
  · exact ⟨rfl, hf, ft', l', k', e', hle, h2, hv⟩
  · omega
theorem wantE_ne {c : Cfg} (h : c.lim.2 = 1 ∨ c.lim.2 = 14 ∨ c.lim.2 = 16) : wantE c.lim.2 ≠ 0 ∧ wantE c.lim.2 ≠ 1 ∧ wantE c.lim.2 < 17 := by
  unfold wantE
  rcases h with h | h | h <;> rw [h] <;> decide
theorem want_not {B : Nat} {w : World} {fb bs : Nat} {c : Cfg} {tk ft left k err : Nat} {v : Value} {xs : List Value} (h : FeedV B w fb bs c tk ft left k err 0 v xs) {z : Int} {n : Nat} (hz : z = (n : Int)) (hn : c.lim.1 < tk + n) (hl : wantE c.lim.2 ≠ 0) :
    Calls Tryz.prog 242 #[.pointer (some ⟨fb, 0, none⟩), .int .i64 z, .bool true] w fun e w' => e = .returned (.iface (errT (wantE c.lim.2)) (.int .i64 (errN (wantE c.lim.2)))) ∧ Fr [fb, bs] w w' ∧ ∃ ft' left k err, ft ≤ ft' ∧ FeedV B w' fb bs c tk ft' left k err 0 v xs := by
  subst hz
  refine (want_any h n).mono ?_
  rintro e w' ⟨hf, ft', l', k', e', hle, hv, ⟨h1, h2, rfl⟩ | ⟨h1, rfl⟩⟩
  · omega
  · exact ⟨by rw [errV_pos hl], hf, ft', l', k', e', hle, hv⟩

section
variable {B : Nat} {w w' : World} {rb fb bs : Nat} {c : Cfg} {tk kk ft left k err : Nat} {v : Value} {xs : List Value}
theorem SlowV.want (h : SlowV B w rb fb bs c tk kk ft left k err v xs) (hf : Fr [fb, bs] w w') {ft' left' k' err' : Nat} (hv : FeedV B w' fb bs c tk ft' left' k' err' 0 v xs) : SlowV B w' rb fb bs c tk kk ft' left' k' err' v xs :=
  ⟨hf.blk h.blk (by
    intro hm
    simp only [List.mem_cons, List.not_mem_nil, or_false] at hm
    rcases hm with e | e
    · exact h.ne_fb e
    · exact h.ne_bs e), hv, h.above, h.lt⟩
end
theorem sub2 {rb fb bs : Nat} {l : List Nat} {x : Nat} (h : x ∈ [fb, bs]) : x ∈ rb :: fb :: bs :: l := by
  simp only [List.mem_cons, List.not_mem_nil, or_false] at h ⊢
  rcases h with h | h
  · exact .inr (.inl h)
  · exact .inr (.inr (.inl h))
theorem sub3 {rb fb bs : Nat} {l : List Nat} {x : Nat} (h : x ∈ rb :: fb :: l) : x ∈ rb :: fb :: bs :: l := by
  simp only [List.mem_cons] at h ⊢
  rcases h with h | h | h
  · exact .inl h
  · exact .inr (.inl h)
  · exact .inr (.inr (.inr h))
theorem sub4 {rb fb bs N : Nat} {v v' : Value} (h : ∀ g, v'.ownBlock = some g → v.ownBlock = some g ∨ N ≤ g) : ∀ x ∈ rb :: fb :: bs :: v'.ownBlock.toList, x ∈ rb :: fb :: bs :: v.ownBlock.toList ∨ N ≤ x := by
  intro x hx
  simp only [List.mem_cons] at hx
  rcases hx with rfl | rfl | rfl | hx
  · exact .inl (by simp)
  · exact .inl (by simp)
  · exact .inl (by simp)
  · rcases h x (by simpa using hx) with h | h
    · exact .inl (by simp [h])
    · exact .inr h

theorem or_val (v b : Nat) (hv : v < 9223372036854775808) (hb : b < 2) : bits .or .u64 ((v : Int) * 2) (b : Int) = ((2 * v + b : Nat) : Int) := by
  rw [show ((v : Int) * 2) = ((2 * v : Nat) : Int) by omega]
  refine (u64_or_nat (2 * v) b (by omega) (by omega)).trans ?_
  rw [nat_join 1 (2 * v) b (by omega) (by omega)]

set_option maxRecDepth 100000 in
set_option maxHeartbeats 4000000 in
theorem sRead_ok {B : Nat} {w : World} {rb bs : Nat} {c : Cfg} {p : Nat} {S : List Nat} (h : SlowS B w rb bs c p S) (n : Nat) (hn : n ≤ 64) (hp : p + n ≤ 8 * c.lim.1) :
    Calls Tryz.prog 246 #[.pointer (some ⟨rb, 0, none⟩), .int .i64 n] w fun e w' => e = .returned (.tuple #[.int .u64 (c.bits p n), .nilIface]) ∧ Moved (SlowS B · rb bs c) w S (p + n) w' := by
  obtain ⟨fb, tk, kk, ft, left, k, err, v, xs, h, rfl, hlim, rfl⟩ := h
  have hc := h.blk.cell
  have hk8 := h.lt
  have hft := h.feed.ft_le
  have hg1 : ¬ (64 : Int) < n := by omega
  have hq : Hid (((kk : Int) + (n : Int) + 7) / 8 = (((kk + n + 7) / 8 : Nat) : Int)) := by unfold Hid; omega
  have hw : tk + (kk + n + 7) / 8 ≤ c.lim.1 := by omega
  have hH : Hid (8 * tk + kk + n ≤ 8 * c.lim.1 ∧ 8 * tk + kk ≤ 8 * c.lim.1) := ⟨hp, hlim⟩
  clear hp hlim
  go_enter Tryz.func246, Tryz.ntmps246
  go_wp2_with fail
  go_still_tail 13, (by kernel_rfl)
  go_wp2_with (go_at_call 242; refine (want_int (h.feed.drewN 1) hq.out hw).mono ?_; rintro e w1 ⟨rfl, hf1, ft1, l1, k1, e1, hle1, hin1, hv1⟩; have hs1 := (h.drewN 1).want hf1 hv1; have hc1 := hs1.blk.cell)
  go_loop [7, 34] (fun s7 s34 => ∃ i : Nat, i ≤ n ∧ s7 = .int .u64 (c.bits (8 * tk + kk) i) ∧ s34 = .int .i64 i) (fun _ s34 => n - (intOf s34).toNat)
  case atStart => exact ⟨0, Nat.zero_le _, rfl, rfl⟩
  case round =>
    obtain ⟨i, hi, rfl, rfl⟩ := hrel
    by_cases hlt : i < n
    · have hlt' : (i : Int) < (n : Int) := by omega
      have hb63 : c.bits (8 * tk + kk) i < 9223372036854775808 := Nat.lt_of_lt_of_le (c.bits_lt _ i) (Nat.pow_le_pow_right (n := 2) (by decide) (show i ≤ 63 by omega))
      go_wp2_with (go_at_call 249; refine (ahead_any hs1 i (by omega)).mono ?_; rintro e w2 ⟨rfl, rfl⟩)
      go_round
      case rel =>
        refine ⟨i + 1, by omega, ?_, by go_num⟩
        refine congrArg (fun z => Value.int .u64 z) ?_
        have := or_val (c.bits (8 * tk + kk) i) (c.bit (8 * tk + (i + kk))) hb63 (c.bit_lt _)
        rw [this]
        show _ = ((2 * c.bits (8 * tk + kk) i + c.bit (8 * tk + kk + i) : Nat) : Int)
        rw [show 8 * tk + (i + kk) = 8 * tk + kk + i by omega]
      case measure => simp [intOf]; omega
    · obtain rfl : n = i := by omega
      clear hi
      go_wp2_with (go_at_call 250; refine (skip_any hs1 n (by omega)).mono ?_; rintro e w2 ⟨rfl, hf2, v2, xs2, hs2, hn2⟩)
      go_ret2
      obtain ⟨hp, hlim⟩ := hH.out
      have hF : Fr (rb :: fb :: bs :: v.ownBlock.toList) w w1 := (Fr.drewN _ w 1).same (hf1.mono (fun k hk => .inl (sub2 hk)))
      refine ⟨rfl, hF.same (hf2.mono (fun k hk => .inl (sub3 hk))), _, ⟨fb, _, _, _, _, _, _, _, _, hs2, by omega, hp, rfl⟩, ?_⟩
      exact sub4 (fun g hg => (hn2 g hg).imp_right (fun h => Nat.le_trans hF.size h))

set_option maxRecDepth 100000 in
set_option maxHeartbeats 4000000 in
theorem sRead_not {B : Nat} {w : World} {rb bs : Nat} {c : Cfg} {p : Nat} {S : List Nat} (h : SlowS B w rb bs c p S) (n : Nat) (hn : n ≤ 64) (hp : 8 * c.lim.1 < p + n) (hl : wantE c.lim.2 ≠ 0) :
    Calls Tryz.prog 246 #[.pointer (some ⟨rb, 0, none⟩), .int .i64 n] w fun e w' => e = .returned (.tuple #[.int .u64 0, .iface (errT (wantE c.lim.2)) (.int .i64 (errN (wantE c.lim.2)))]) ∧ Moved (SlowS B · rb bs c) w S p w' := by
  obtain ⟨fb, tk, kk, ft, left, k, err, v, xs, h, rfl, hlim, rfl⟩ := h
  have hc := h.blk.cell
  have hk8 := h.lt
  have hft := h.feed.ft_le
  have hg1 : ¬ (64 : Int) < n := by omega
  have hq : Hid (((kk : Int) + (n : Int) + 7) / 8 = (((kk + n + 7) / 8 : Nat) : Int)) := by unfold Hid; omega
  have hw : c.lim.1 < tk + (kk + n + 7) / 8 := by omega
  have hH : Hid (8 * tk + kk ≤ 8 * c.lim.1) := hlim
  obtain ⟨hh, hlf⟩ := errV_leaf hl
  have hln := hlf.nnil
  clear hp hlim hlf
  go_enter Tryz.func246, Tryz.ntmps246
  go_wp2_with fail
  go_still_tail 13, (by kernel_rfl)
  go_wp2_with (go_at_call 242; refine (want_not (h.feed.drewN 1) hq.out hw hl).mono ?_; rintro e w1 ⟨rfl, hf1, ft1, l1, k1, e1, hle1, hv1⟩; have hs1 := (h.drewN 1).want hf1 hv1; have hc1 := hs1.blk.cell)
  go_ret2
  have hF : Fr (rb :: fb :: bs :: v.ownBlock.toList) w w1 := (Fr.drewN _ w 1).same (hf1.mono (fun k hk => .inl (sub2 hk)))
  exact ⟨rfl, hF, _, ⟨fb, _, _, _, _, _, _, _, _, hs1, rfl, hH.out, rfl⟩, fun x hx => .inl hx⟩
set_option maxRecDepth 100000 in
set_option maxHeartbeats 4000000 in
theorem sRead_arg {rb : Nat} (n : Int) (hn : n < 0 ∨ 64 < n) (w : World) :
    Calls Tryz.prog 246 #[.pointer (some ⟨rb, 0, none⟩), .int .i64 n] w fun e w' => e = .returned (.tuple #[.int .u64 0, .iface 138 (.int .i64 15)]) ∧ w = w' := by
  have h1 : n < 0 ∨ (¬ n < 0 ∧ 64 < n) := by omega
  rcases h1 with h1 | ⟨h1, h2⟩
  all_goals
    go_enter Tryz.func246, Tryz.ntmps246
    go_wp2_with fail
    go_ret2
    exact ⟨rfl, rfl⟩

/-- Unary: a one comes. -/
theorem bits_eq_iff {c : Cfg} {p n : Nat} : c.bits p (n + 1) = 0 ↔ c.bits p n = 0 ∧ c.bit (p + n) = 0 := by
  have h : c.bits p (n + 1) = 2 * c.bits p n + c.bit (p + n) := rfl
  omega
set_option maxRecDepth 100000 in
set_option maxHeartbeats 4000000 in
theorem sUnary_ok {B : Nat} {w : World} {rb bs : Nat} {c : Cfg} {p : Nat} {S : List Nat} (h : SlowS B w rb bs c p S) (n : Nat) (hu : c.una p n) (hp : p + n < 8 * c.lim.1) :
    Calls Tryz.prog 247 #[.pointer (some ⟨rb, 0, none⟩)] w fun e w' => e = .returned (.tuple #[.int .i64 n, .nilIface]) ∧ Moved (SlowS B · rb bs c) w S (p + n + 1) w' := by
  obtain ⟨fb, tk, kk, ft, left, k, err, v, xs, h, rfl, hlim, rfl⟩ := h
  have hlen := h.feed.lim_len
  have hft0 := h.feed.ft_le
  have hsz : c.lim.1 ≤ 1048576 := by omega
  have hH : Hid (8 * tk + kk ≤ 8 * c.lim.1 ∧ 8 * tk + kk + n < 8 * c.lim.1 ∧ c.una (8 * tk + kk) n) := ⟨hlim, hp, hu⟩
  have hn16 : n < 16777216 := by omega
  have hk8 := h.lt
  have h0 := h
  clear hp hlim hu hlen hft0 hsz
  go_enter Tryz.func247, Tryz.ntmps247
  go_wp2_with fail
  go_loopg [4] n (fun g s4 wx => ∃ i ft left k err : Nat, g = n - i ∧ i ≤ n ∧ s4 = .int .i64 i ∧ SlowV B wx rb fb bs c tk kk ft left k err v xs ∧ Fr (rb :: fb :: bs :: v.ownBlock.toList) w wx)
  case atStart => exact ⟨0, ft, left, k, err, rfl, Nat.zero_le _, rfl, h, Fr.refl _ _⟩
  case round =>
    obtain ⟨i, ft, left, k, err, hg, hi, rfl, hs, hF⟩ := hrel
    have hc := hs.blk.cell
    have hq : Hid (((kk : Int) + (i : Int)) / 8 + 1 = (((kk + i) / 8 + 1 : Nat) : Int)) := by unfold Hid; omega
    have hw : tk + ((kk + i) / 8 + 1) ≤ c.lim.1 := by have := hH.out; omega
    have hG : Hid (gk = n - i) := hg
    clear hg
    go_wp2_with fail
    go_still_tail 13, (by kernel_rfl)
    by_cases hlt : i < n
    · have hz : c.bit (8 * tk + (i + kk)) = 0 := by
        have := c.bit_of_zero _ n i hlt hH.out.2.2.1
        rw [show 8 * tk + (i + kk) = 8 * tk + kk + i by omega]; exact this
      have hz' := Hid.mk hz
      clear hz
      go_wp2_with (first
        | (go_at_call 242; refine (want_int (hs.feed.drewN 1) hq.out hw).mono ?_; rintro e w1 ⟨rfl, hf1, ft1, l1, k1, e1, hle1, hin1, hv1⟩; have hs1 := (hs.drewN 1).want hf1 hv1; have hc1 := hs1.blk.cell)
        | (go_at_call 249; refine (ahead_is hs1 i (by omega) 0 (congrArg Nat.cast hz'.out)).mono ?_; rintro e w2 ⟨rfl, rfl⟩))
      go_roundg (n - (i + 1))
      case measure => have := hG.out; omega
      case rel => exact ⟨i + 1, ft1, l1, k1, e1, rfl, by omega, by go_num, hs1, hF.same ((Fr.drewN _ wr 1).same (hf1.mono (fun k hk => .inl (sub2 hk))))⟩
    · obtain rfl : n = i := by omega
      have hz : c.bit (8 * tk + (n + kk)) = 1 := by
        have := hH.out.2.2.2
        rw [show 8 * tk + (n + kk) = 8 * tk + kk + n by omega]; exact this
      have hz' := Hid.mk hz
      clear hz
      go_wp2_with (first
        | (go_at_call 242; refine (want_int (hs.feed.drewN 1) hq.out hw).mono ?_; rintro e w1 ⟨rfl, hf1, ft1, l1, k1, e1, hle1, hin1, hv1⟩; have hs1 := (hs.drewN 1).want hf1 hv1; have hc1 := hs1.blk.cell)
        | (go_at_call 249; refine (ahead_is hs1 n (by omega) 1 (congrArg Nat.cast hz'.out)).mono ?_; rintro e w2 ⟨rfl, rfl⟩)
        | (go_at_call 250; refine (skip_any hs1 (n + 1) (by omega)).mono ?_; rintro e w2 ⟨rfl, hf2, v2, xs2, hs2, hn2⟩))
      go_ret2
      obtain ⟨hlim, hp, _⟩ := hH.out
      have hF2 : Fr (rb :: fb :: bs :: v.ownBlock.toList) w w1 := hF.same ((Fr.drewN _ wr 1).same (hf1.mono (fun k hk => .inl (sub2 hk))))
      refine ⟨rfl, hF2.same (hf2.mono (fun k hk => .inl (sub3 hk))), _, ⟨fb, _, _, _, _, _, _, _, _, hs2, by omega, by omega, rfl⟩, ?_⟩
      exact sub4 (fun g hg => (hn2 g hg).imp_right (fun h => Nat.le_trans hF2.size h))

end Go.Proofs.YthigfpaajbejdaaGreatDoor
