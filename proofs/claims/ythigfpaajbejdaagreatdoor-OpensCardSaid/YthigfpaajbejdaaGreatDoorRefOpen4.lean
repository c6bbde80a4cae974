/-
  flacpairref.Decoder.about, walked: where it comes too short.
-/
/-
  flacpairref.Open, walked: the blocks of metadata: contracts at hand.
-/
import Derived.Test.YthigfpaajbejdaaGreatDoorRefAbout
import Derived.Test.YthigfpaajbejdaaGreatDoorRefOpen3
import Derived.Test.YthigfpaajbejdaaGreatDoorRefAbout2
namespace Go.Proofs.YthigfpaajbejdaaGreatDoor
open Go.RowKit

set_option maxRecDepth 100000 in
set_option maxHeartbeats 4000000 in
theorem rAbout_not {w : World} {rb sb db : Nat} {c : Cfg} {i : Nat → Int} {sm : ByteArray} {at_ : Int} (hk : LimOk c) {e p : Nat} (h : RefB w rb sb c e p) (hp0 : p ≤ 8 * c.lim.1) (h0 : e = 0 → p = 64) (hd : DecR w db sb i sm at_) (hbad : ¬ (e = 0 ∧ 42 ≤ c.lim.1)) :
    Calls Tryz.prog 47 #[.pointer (some ⟨db, 0, none⟩), .pointer (some ⟨rb, 0, none⟩)] w (AboutNot rb sb db c at_ e w) := by
  have hN0 := Blk.new w #[.int .i64 0, .int .i64 0, .int .i64 0, .int .i64 0, .int .i64 0, .int .i64 0, .int .i64 0, .int .i64 0, .string ⟨#[]⟩] 108
  have hF0 := Fr.alloc [] w (.cells #[.int .i64 0, .int .i64 0, .int .i64 0, .int .i64 0, .int .i64 0, .int .i64 0, .int .i64 0, .int .i64 0, .string ⟨#[]⟩] 108)
  have hr0 := h.still hF0
  have hd0 := hF0.blk hd.blk (by simp)
  have hrN : rb ≠ w.heap.size := Nat.ne_of_lt h.blk.lt
  have hsN : sb ≠ w.heap.size := Nat.ne_of_lt h.doc.blk.lt
  have hdN : db ≠ w.heap.size := Nat.ne_of_lt hd.blk.lt
  have hrd : rb ≠ db := h.blk.ne hd.blk (by decide)
  have hsd : sb ≠ db := h.doc.blk.ne hd.blk (by decide)
  obtain ⟨E, hE⟩ : ∃ E, E = c.fal e := ⟨_, rfl⟩
  have hE0 : ((E : Int) == 0) = false := by
    have := c.fal_ne hk e
    rw [← hE] at this
    simpa using this
  have hE' := Hid.mk2 hE
  have kt : ∀ {W : World} {e8 p8 : Nat}, RefB W rb sb c e8 p8 → p8 ≤ 8 * c.lim.1 → Hid ((e8 = 0 → p8 = 8 * 26) ∧ ¬ (e8 = 0 ∧ 26 + 16 ≤ c.lim.1) ∧ c.fal e8 = c.fal e) →
      Hid (Calls Tryz.prog 44 #[.pointer (some ⟨rb, 0, none⟩), .int .i64 16] W fun ev w' => ∃ (t : ByteArray) (p' : Nat), ev = .returned (.string t) ∧ RefB w' rb sb c E p' ∧ p' ≤ 8 * c.lim.1 ∧ Fr [rb, sb] W w') := by
    intro W e8 p8 hW hp hs
    have hx := rText_not (q := 26) (n := 16) hk hW hp hs.out.1 (z := 16) rfl (by decide) hs.out.2.1
    rw [hs.out.2.2, ← hE'.out] at hx
    exact hx
  clear hE
  go_enter Tryz.func47, Tryz.ntmps47
  go_wp2_with fail
  have hFF : Fr [rb, sb, w.heap.size] (w.alloc (.cells #[.int .i64 0, .int .i64 0, .int .i64 0, .int .i64 0, .int .i64 0, .int .i64 0, .int .i64 0, .int .i64 0, .string ⟨#[]⟩] 108)) (w.alloc (.cells #[.int .i64 0, .int .i64 0, .int .i64 0, .int .i64 0, .int .i64 0, .int .i64 0, .int .i64 0, .int .i64 0, .string ⟨#[]⟩] 108)) := Fr.refl _ _
  obtain ⟨N, hNe⟩ : ∃ N, N = w.heap.size := ⟨_, rfl⟩
  rw [← hNe] at hN0 hrN hsN hdN hFF ⊢
  have hNw : Hid (w.heap.size ≤ N) := Nat.le_of_eq hNe.symm
  clear hNe
  generalize w.alloc (.cells #[.int .i64 0, .int .i64 0, .int .i64 0, .int .i64 0, .int .i64 0, .int .i64 0, .int .i64 0, .int .i64 0, .string ⟨#[]⟩] 108) = w0 at *
  have hNS : N ∉ [rb, sb] := by simp; omega
  have hDS : db ∉ [rb, sb, N] := by simp; omega
  go_wp2_with (first
    | (go_at_call 46; (with_reducible refine (rBits_go hk hr0 16 (z := 16) rfl (by decide) hp0).mono ?_); rintro e w1 ⟨⟨x0, hx0, rfl⟩, e1, p1, hq1, hp1, hs1, hf1⟩; have hM1 := hf1.blk hN0 hNS; have hc1 := hM1.cell; have hz1 := hM1.frozen; have hN1 : Blk (w1.setCell ⟨N, 0, none⟩ (.int .i64 x0)) N #[.int .i64 x0, .int .i64 0, .int .i64 0, .int .i64 0, .int .i64 0, .int .i64 0, .int .i64 0, .int .i64 0, .string ⟨#[]⟩] 108 := hM1.set 0 (.int .i64 x0); have hr1 := abt_rb hq1 hrN hsN 0 (.int .i64 x0); have hF1 := abt_fr hFF hf1 0 (.int .i64 x0))
    | (go_at_call 46; (with_reducible refine (rBits_go hk hr1 16 (z := 16) rfl (by decide) hp1).mono ?_); rintro e w2 ⟨⟨x1, hx1, rfl⟩, e2, p2, hq2, hp2, hs2, hf2⟩; have hM2 := hf2.blk hN1 hNS; have hc2 := hM2.cell; have hz2 := hM2.frozen; have hN2 : Blk (w2.setCell ⟨N, 1, none⟩ (.int .i64 x1)) N #[.int .i64 x0, .int .i64 x1, .int .i64 0, .int .i64 0, .int .i64 0, .int .i64 0, .int .i64 0, .int .i64 0, .string ⟨#[]⟩] 108 := hM2.set 1 (.int .i64 x1); have hr2 := abt_rb hq2 hrN hsN 1 (.int .i64 x1); have hF2 := abt_fr hF1 hf2 1 (.int .i64 x1))
    | (go_at_call 46; (with_reducible refine (rBits_go hk hr2 24 (z := 24) rfl (by decide) hp2).mono ?_); rintro e w3 ⟨⟨x2, hx2, rfl⟩, e3, p3, hq3, hp3, hs3, hf3⟩; have hM3 := hf3.blk hN2 hNS; have hc3 := hM3.cell; have hz3 := hM3.frozen; have hN3 : Blk (w3.setCell ⟨N, 2, none⟩ (.int .i64 x2)) N #[.int .i64 x0, .int .i64 x1, .int .i64 x2, .int .i64 0, .int .i64 0, .int .i64 0, .int .i64 0, .int .i64 0, .string ⟨#[]⟩] 108 := hM3.set 2 (.int .i64 x2); have hr3 := abt_rb hq3 hrN hsN 2 (.int .i64 x2); have hF3 := abt_fr hF2 hf3 2 (.int .i64 x2))
    | (go_at_call 46; (with_reducible refine (rBits_go hk hr3 24 (z := 24) rfl (by decide) hp3).mono ?_); rintro e w4 ⟨⟨x3, hx3, rfl⟩, e4, p4, hq4, hp4, hs4, hf4⟩; have hM4 := hf4.blk hN3 hNS; have hc4 := hM4.cell; have hz4 := hM4.frozen; have hN4 : Blk (w4.setCell ⟨N, 3, none⟩ (.int .i64 x3)) N #[.int .i64 x0, .int .i64 x1, .int .i64 x2, .int .i64 x3, .int .i64 0, .int .i64 0, .int .i64 0, .int .i64 0, .string ⟨#[]⟩] 108 := hM4.set 3 (.int .i64 x3); have hr4 := abt_rb hq4 hrN hsN 3 (.int .i64 x3); have hF4 := abt_fr hF3 hf4 3 (.int .i64 x3))
    | (go_at_call 46; (with_reducible refine (rBits_go hk hr4 20 (z := 20) rfl (by decide) hp4).mono ?_); rintro e w5 ⟨⟨x4, hx4, rfl⟩, e5, p5, hq5, hp5, hs5, hf5⟩; have hM5 := hf5.blk hN4 hNS; have hc5 := hM5.cell; have hz5 := hM5.frozen; have hN5 : Blk (w5.setCell ⟨N, 4, none⟩ (.int .i64 x4)) N #[.int .i64 x0, .int .i64 x1, .int .i64 x2, .int .i64 x3, .int .i64 x4, .int .i64 0, .int .i64 0, .int .i64 0, .string ⟨#[]⟩] 108 := hM5.set 4 (.int .i64 x4); have hr5 := abt_rb hq5 hrN hsN 4 (.int .i64 x4); have hF5 := abt_fr hF4 hf5 4 (.int .i64 x4))
    | (go_at_call 46; (with_reducible refine (rBits_go hk hr5 3 (z := 3) rfl (by decide) hp5).mono ?_); rintro e w6 ⟨⟨x5, hx5, rfl⟩, e6, p6, hq6, hp6, hs6, hf6⟩; have hM6 := hf6.blk hN5 hNS; have hc6 := hM6.cell; have hz6 := hM6.frozen; have hN6 : Blk (w6.setCell ⟨N, 5, none⟩ (.int .i64 (1 + (x5 : Int)))) N #[.int .i64 x0, .int .i64 x1, .int .i64 x2, .int .i64 x3, .int .i64 x4, .int .i64 (1 + (x5 : Int)), .int .i64 0, .int .i64 0, .string ⟨#[]⟩] 108 := hM6.set 5 (.int .i64 (1 + (x5 : Int))); have hr6 := abt_rb hq6 hrN hsN 5 (.int .i64 (1 + (x5 : Int))); have hF6 := abt_fr hF5 hf6 5 (.int .i64 (1 + (x5 : Int))))
    | (go_at_call 46; (with_reducible refine (rBits_go hk hr6 5 (z := 5) rfl (by decide) hp6).mono ?_); rintro e w7 ⟨⟨x6, hx6, rfl⟩, e7, p7, hq7, hp7, hs7, hf7⟩; have hM7 := hf7.blk hN6 hNS; have hc7 := hM7.cell; have hz7 := hM7.frozen; have hN7 : Blk (w7.setCell ⟨N, 6, none⟩ (.int .i64 (1 + (x6 : Int)))) N #[.int .i64 x0, .int .i64 x1, .int .i64 x2, .int .i64 x3, .int .i64 x4, .int .i64 (1 + (x5 : Int)), .int .i64 (1 + (x6 : Int)), .int .i64 0, .string ⟨#[]⟩] 108 := hM7.set 6 (.int .i64 (1 + (x6 : Int))); have hr7 := abt_rb hq7 hrN hsN 6 (.int .i64 (1 + (x6 : Int))); have hF7 := abt_fr hF6 hf7 6 (.int .i64 (1 + (x6 : Int))))
    | (go_at_call 46; (with_reducible refine (rBits_go hk hr7 36 (z := 36) rfl (by decide) hp7).mono ?_); rintro e w8 ⟨⟨x7, hx7, rfl⟩, e8, p8, hq8, hp8, hs8, hf8⟩; have hM8 := hf8.blk hN7 hNS; have hc8 := hM8.cell; have hz8 := hM8.frozen; have hN8 : Blk (w8.setCell ⟨N, 7, none⟩ (.int .i64 x7)) N #[.int .i64 x0, .int .i64 x1, .int .i64 x2, .int .i64 x3, .int .i64 x4, .int .i64 (1 + (x5 : Int)), .int .i64 (1 + (x6 : Int)), .int .i64 x7, .string ⟨#[]⟩] 108 := hM8.set 7 (.int .i64 x7); have hr8 := abt_rb hq8 hrN hsN 7 (.int .i64 x7); have hF8 := abt_fr hF7 hf8 7 (.int .i64 x7))
    | (go_at_call 44; (with_reducible refine ((kt hr8 hp8 (abt_chain h0 hbad hs1 hs2 hs3 hs4 hs5 hs6 hs7 hs8)).out).mono ?_); rintro e w9 ⟨tx, p9, rfl, hq9, hp9, hf9⟩; have hM9 := hf9.blk hN8 hNS; have hc9 := hM9.cell; have hz9 := hM9.frozen; have hN9 : Blk (w9.setCell ⟨N, 8, none⟩ (.string tx)) N #[.int .i64 x0, .int .i64 x1, .int .i64 x2, .int .i64 x3, .int .i64 x4, .int .i64 (1 + (x5 : Int)), .int .i64 (1 + (x6 : Int)), .int .i64 x7, .string tx] 108 := hM9.set 8 (.string tx); have hcN := hN9.cell; have hr9 := abt_rb hq9 hrN hsN 8 (.string tx); have hF9 := abt_fr hF8 hf9 8 (.string tx); have hc9x := hr9.blk.cell; have hd9 := hF9.blk hd0 hDS; have hcd := hd9.cell; have hzd := hd9.frozen))
  go_end0
  have D0 : Blk ((w9.setCell ⟨N, 8, none⟩ (.string tx)).setCell ⟨db, 1, none⟩ (.int .i64 x0)) db #[.pointer (some ⟨sb, 0, none⟩), .int .i64 x0, .int .i64 (i 1), .int .i64 (i 2), .int .i64 (i 3), .int .i64 (i 4), .int .i64 (i 5), .int .i64 (i 6), .int .i64 (i 7), .string sm, .int .i64 at_, .int .i64 0, .int .i64 0, .bool false, .string ⟨#[]⟩, .int .i64 0, .int .i64 0, .int .i64 0] 110 := hd9.set 1 _
  have D1 : Blk (((w9.setCell ⟨N, 8, none⟩ (.string tx)).setCell ⟨db, 1, none⟩ (.int .i64 x0)).setCell ⟨db, 2, none⟩ (.int .i64 x1)) db #[.pointer (some ⟨sb, 0, none⟩), .int .i64 x0, .int .i64 x1, .int .i64 (i 2), .int .i64 (i 3), .int .i64 (i 4), .int .i64 (i 5), .int .i64 (i 6), .int .i64 (i 7), .string sm, .int .i64 at_, .int .i64 0, .int .i64 0, .bool false, .string ⟨#[]⟩, .int .i64 0, .int .i64 0, .int .i64 0] 110 := D0.set 2 _
  have D2 : Blk ((((w9.setCell ⟨N, 8, none⟩ (.string tx)).setCell ⟨db, 1, none⟩ (.int .i64 x0)).setCell ⟨db, 2, none⟩ (.int .i64 x1)).setCell ⟨db, 3, none⟩ (.int .i64 x2)) db #[.pointer (some ⟨sb, 0, none⟩), .int .i64 x0, .int .i64 x1, .int .i64 x2, .int .i64 (i 3), .int .i64 (i 4), .int .i64 (i 5), .int .i64 (i 6), .int .i64 (i 7), .string sm, .int .i64 at_, .int .i64 0, .int .i64 0, .bool false, .string ⟨#[]⟩, .int .i64 0, .int .i64 0, .int .i64 0] 110 := D1.set 3 _
  have D3 : Blk (((((w9.setCell ⟨N, 8, none⟩ (.string tx)).setCell ⟨db, 1, none⟩ (.int .i64 x0)).setCell ⟨db, 2, none⟩ (.int .i64 x1)).setCell ⟨db, 3, none⟩ (.int .i64 x2)).setCell ⟨db, 4, none⟩ (.int .i64 x3)) db #[.pointer (some ⟨sb, 0, none⟩), .int .i64 x0, .int .i64 x1, .int .i64 x2, .int .i64 x3, .int .i64 (i 4), .int .i64 (i 5), .int .i64 (i 6), .int .i64 (i 7), .string sm, .int .i64 at_, .int .i64 0, .int .i64 0, .bool false, .string ⟨#[]⟩, .int .i64 0, .int .i64 0, .int .i64 0] 110 := D2.set 4 _
  have D4 : Blk ((((((w9.setCell ⟨N, 8, none⟩ (.string tx)).setCell ⟨db, 1, none⟩ (.int .i64 x0)).setCell ⟨db, 2, none⟩ (.int .i64 x1)).setCell ⟨db, 3, none⟩ (.int .i64 x2)).setCell ⟨db, 4, none⟩ (.int .i64 x3)).setCell ⟨db, 5, none⟩ (.int .i64 x4)) db #[.pointer (some ⟨sb, 0, none⟩), .int .i64 x0, .int .i64 x1, .int .i64 x2, .int .i64 x3, .int .i64 x4, .int .i64 (i 5), .int .i64 (i 6), .int .i64 (i 7), .string sm, .int .i64 at_, .int .i64 0, .int .i64 0, .bool false, .string ⟨#[]⟩, .int .i64 0, .int .i64 0, .int .i64 0] 110 := D3.set 5 _
  have D5 : Blk (((((((w9.setCell ⟨N, 8, none⟩ (.string tx)).setCell ⟨db, 1, none⟩ (.int .i64 x0)).setCell ⟨db, 2, none⟩ (.int .i64 x1)).setCell ⟨db, 3, none⟩ (.int .i64 x2)).setCell ⟨db, 4, none⟩ (.int .i64 x3)).setCell ⟨db, 5, none⟩ (.int .i64 x4)).setCell ⟨db, 6, none⟩ (.int .i64 (1 + (x5 : Int)))) db #[.pointer (some ⟨sb, 0, none⟩), .int .i64 x0, .int .i64 x1, .int .i64 x2, .int .i64 x3, .int .i64 x4, .int .i64 (1 + (x5 : Int)), .int .i64 (i 6), .int .i64 (i 7), .string sm, .int .i64 at_, .int .i64 0, .int .i64 0, .bool false, .string ⟨#[]⟩, .int .i64 0, .int .i64 0, .int .i64 0] 110 := D4.set 6 _
  have D6 : Blk ((((((((w9.setCell ⟨N, 8, none⟩ (.string tx)).setCell ⟨db, 1, none⟩ (.int .i64 x0)).setCell ⟨db, 2, none⟩ (.int .i64 x1)).setCell ⟨db, 3, none⟩ (.int .i64 x2)).setCell ⟨db, 4, none⟩ (.int .i64 x3)).setCell ⟨db, 5, none⟩ (.int .i64 x4)).setCell ⟨db, 6, none⟩ (.int .i64 (1 + (x5 : Int)))).setCell ⟨db, 7, none⟩ (.int .i64 (1 + (x6 : Int)))) db #[.pointer (some ⟨sb, 0, none⟩), .int .i64 x0, .int .i64 x1, .int .i64 x2, .int .i64 x3, .int .i64 x4, .int .i64 (1 + (x5 : Int)), .int .i64 (1 + (x6 : Int)), .int .i64 (i 7), .string sm, .int .i64 at_, .int .i64 0, .int .i64 0, .bool false, .string ⟨#[]⟩, .int .i64 0, .int .i64 0, .int .i64 0] 110 := D5.set 7 _
  have D7 : Blk (((((((((w9.setCell ⟨N, 8, none⟩ (.string tx)).setCell ⟨db, 1, none⟩ (.int .i64 x0)).setCell ⟨db, 2, none⟩ (.int .i64 x1)).setCell ⟨db, 3, none⟩ (.int .i64 x2)).setCell ⟨db, 4, none⟩ (.int .i64 x3)).setCell ⟨db, 5, none⟩ (.int .i64 x4)).setCell ⟨db, 6, none⟩ (.int .i64 (1 + (x5 : Int)))).setCell ⟨db, 7, none⟩ (.int .i64 (1 + (x6 : Int)))).setCell ⟨db, 8, none⟩ (.int .i64 x7)) db #[.pointer (some ⟨sb, 0, none⟩), .int .i64 x0, .int .i64 x1, .int .i64 x2, .int .i64 x3, .int .i64 x4, .int .i64 (1 + (x5 : Int)), .int .i64 (1 + (x6 : Int)), .int .i64 x7, .string sm, .int .i64 at_, .int .i64 0, .int .i64 0, .bool false, .string ⟨#[]⟩, .int .i64 0, .int .i64 0, .int .i64 0] 110 := D6.set 8 _
  have D8 : Blk ((((((((((w9.setCell ⟨N, 8, none⟩ (.string tx)).setCell ⟨db, 1, none⟩ (.int .i64 x0)).setCell ⟨db, 2, none⟩ (.int .i64 x1)).setCell ⟨db, 3, none⟩ (.int .i64 x2)).setCell ⟨db, 4, none⟩ (.int .i64 x3)).setCell ⟨db, 5, none⟩ (.int .i64 x4)).setCell ⟨db, 6, none⟩ (.int .i64 (1 + (x5 : Int)))).setCell ⟨db, 7, none⟩ (.int .i64 (1 + (x6 : Int)))).setCell ⟨db, 8, none⟩ (.int .i64 x7)).setCell ⟨db, 9, none⟩ (.string tx)) db #[.pointer (some ⟨sb, 0, none⟩), .int .i64 x0, .int .i64 x1, .int .i64 x2, .int .i64 x3, .int .i64 x4, .int .i64 (1 + (x5 : Int)), .int .i64 (1 + (x6 : Int)), .int .i64 x7, .string tx, .int .i64 at_, .int .i64 0, .int .i64 0, .bool false, .string ⟨#[]⟩, .int .i64 0, .int .i64 0, .int .i64 0] 110 := D7.set 9 _
  refine ⟨p9, (fun j => ([(x0 : Int), (x1 : Int), (x2 : Int), (x3 : Int), (x4 : Int), 1 + (x5 : Int), 1 + (x6 : Int), (x7 : Int)] : List Int).getD j 0), tx, rfl, ?_, hp9, ?_, abt_fin hF0 hNw.out hF9 _ _ _ _ _ _ _ _ _⟩
  · rw [← hE'.out]
    exact hr9.keep (fr9 db _ _ _ _ _ _ _ _ _ _) (by simpa using hrd) (by simpa using hsd)
  · exact D8

end Go.Proofs.YthigfpaajbejdaaGreatDoor
namespace Go.Proofs.YthigfpaajbejdaaGreatDoor
open Go.RowKit

theorem Cfg.fal_id {c : Cfg} {e : Nat} (he : e ≠ 0) : c.fal e = e := by unfold fal; rw [if_neg he]
theorem rAbout_dead {w : World} {rb sb db : Nat} {c : Cfg} {e p : Nat} {i : Nat → Int} {sm : ByteArray} {at_ : Int} (hk : LimOk c) (h : RefB w rb sb c e p) (he : e ≠ 0) (hp : p ≤ 8 * c.lim.1) (hd : DecR w db sb i sm at_) :
    Calls Tryz.prog 47 #[.pointer (some ⟨db, 0, none⟩), .pointer (some ⟨rb, 0, none⟩)] w fun ev w' => ev = .returned (.tuple #[]) ∧ (∃ p', RefB w' rb sb c e p') ∧ Fr [rb, sb, db] w w' := by
  refine (rAbout_not hk h hp (fun h => absurd h he) hd (fun h => he h.1)).mono ?_
  rintro ev w' ⟨p', i', sm', rfl, h2, _, _, h5⟩
  rw [Cfg.fal_id he] at h2
  exact ⟨rfl, ⟨p', h2⟩, h5⟩
theorem rAbout_short {w : World} {rb sb db : Nat} {c : Cfg} {p q : Nat} {i : Nat → Int} {sm : ByteArray} {at_ : Int} (hk : LimOk c) (h : RefB w rb sb c 0 p) (hpq : p = 8 * (q + 4)) (hq : q = 4) (hp : p ≤ 8 * c.lim.1) (hL : c.lim.1 < q + 38) (hd : DecR w db sb i sm at_) :
    Calls Tryz.prog 47 #[.pointer (some ⟨db, 0, none⟩), .pointer (some ⟨rb, 0, none⟩)] w fun ev w' => ev = .returned (.tuple #[]) ∧ (∃ p', RefB w' rb sb c (wantE c.lim.2) p') ∧ Fr [rb, sb, db] w w' := by
  refine (rAbout_not hk h hp (fun _ => by omega) hd (fun h => by omega)).mono ?_
  rintro ev w' ⟨p', i', sm', rfl, h2, _, _, h5⟩
  exact ⟨rfl, ⟨p', h2⟩, h5⟩
theorem rAbout_there {w : World} {rb sb db : Nat} {c : Cfg} {p q : Nat} {i : Nat → Int} {sm : ByteArray} {at_ : Int} (hk : LimOk c) (h : RefB w rb sb c 0 p) (hpq : p = 8 * (q + 4)) (hq : q = 4) (hL : q + 38 ≤ c.lim.1) (hd : DecR w db sb i sm at_) (k : Nat) (hb : (c.infoBad = true ∧ k = 4) ∨ (c.infoBad = false ∧ k = 0)) :
    Calls Tryz.prog 47 #[.pointer (some ⟨db, 0, none⟩), .pointer (some ⟨rb, 0, none⟩)] w fun ev w' => ev = .returned (.tuple #[]) ∧ RefB w' rb sb c k (8 * (q + 38)) ∧ DecR w' db sb c.infI (c.text.extract 26 42) at_ ∧ Fr [rb, sb, db] w w' := by
  subst hq
  subst hpq
  rcases hb with ⟨hb, rfl⟩ | ⟨hb, rfl⟩
  · exact rAbout_bad hk h hd hL hb
  · exact rAbout_good hk h hd hL hb
theorem rPass_dead {w : World} {rb sb : Nat} {c : Cfg} {e p n : Nat} (hk : LimOk c) (h : RefB w rb sb c e p) (he : e ≠ 0) (hp : p ≤ 8 * c.lim.1) (hn : n < 68719476736) :
    Calls Tryz.prog 48 #[.pointer (some ⟨rb, 0, none⟩), .int .i64 n] w fun ev w' => ev = .returned (.tuple #[]) ∧ (∃ p', RefB w' rb sb c e p') ∧ Fr [rb, sb] w w' := by
  refine (rPass_any (q := 0) hk h hp (fun h => absurd h he) hn).mono ?_
  rintro ev w' ⟨e', p', rfl, h2, _, h4, h5⟩
  rcases h5 with ⟨h6, _⟩ | ⟨_, rfl⟩
  · exact absurd h6 he
  · rw [Cfg.fal_id he] at h2
    exact ⟨rfl, ⟨p', h2⟩, h4⟩
theorem rPass_short {w : World} {rb sb : Nat} {c : Cfg} {p q n : Nat} (hk : LimOk c) (h : RefB w rb sb c 0 p) (hpq : p = 8 * (q + 4)) (hp : p ≤ 8 * c.lim.1) (hn : n < 68719476736) (hL : c.lim.1 < q + 4 + n) :
    Calls Tryz.prog 48 #[.pointer (some ⟨rb, 0, none⟩), .int .i64 n] w fun ev w' => ev = .returned (.tuple #[]) ∧ (∃ p', RefB w' rb sb c (wantE c.lim.2) p') ∧ Fr [rb, sb] w w' := by
  refine (rPass_any (q := q + 4) hk h hp (fun _ => hpq) hn).mono ?_
  rintro ev w' ⟨e', p', rfl, h2, _, h4, h5⟩
  rcases h5 with ⟨_, h6, _⟩ | ⟨_, rfl⟩
  · omega
  · exact ⟨rfl, ⟨p', h2⟩, h4⟩
theorem rPass_ok {w : World} {rb sb : Nat} {c : Cfg} {p q n : Nat} (hk : LimOk c) (h : RefB w rb sb c 0 p) (hpq : p = 8 * (q + 4)) (hp : p ≤ 8 * c.lim.1) (hn : n < 68719476736) (hL : q + 4 + n ≤ c.lim.1) :
    Calls Tryz.prog 48 #[.pointer (some ⟨rb, 0, none⟩), .int .i64 n] w fun ev w' => ev = .returned (.tuple #[]) ∧ RefB w' rb sb c 0 (8 * (q + 4 + n)) ∧ Fr [rb, sb] w w' := by
  refine (rPass_any (q := q + 4) hk h hp (fun _ => hpq) hn).mono ?_
  rintro ev w' ⟨e', p', rfl, h2, _, h4, h5⟩
  rcases h5 with ⟨_, _, rfl, rfl⟩ | ⟨h6, _⟩
  · exact ⟨rfl, h2, h4⟩
  · exact absurd ⟨rfl, hL⟩ h6
/-- A head of which not all is there: the fault. -/
theorem head_bad {c : Cfg} {q e1 p1 e2 p2 e3 p3 E : Nat} (hE : Hid (wantE c.lim.2 = E)) (hL : c.lim.1 < q + 4)
    (h1 : Goes c 0 (8 * q) 1 e1 p1) (h2 : Goes c e1 p1 7 e2 p2) (h3 : Goes c e2 p2 24 e3 p3) (hp : p3 ≤ 8 * c.lim.1) : e3 = E := by
  have a1 := h1.1
  have a2 := h2.1
  have a3 := h3.1
  have hne : e3 ≠ 0 := fun h => by
    obtain ⟨z2, q3⟩ := a3 h
    obtain ⟨z1, q2⟩ := a2 z2
    obtain ⟨_, q1⟩ := a1 z1
    omega
  rw [← Cfg.fal_id (c := c) hne, h3.2, h2.2, h1.2, ← hE.out]
  rfl

/-- The loop over the blocks: where it stands. -/
def RRun (c : Cfg) (rb sb db : Nat) (R : OpenRes) (wx : World) (g k last at_ : Nat) : Prop :=
  (∃ f q i sm, g = f + 1 ∧ last = 0 ∧ R = c.openGo f k q ∧ c.lim.1 < q + f ∧ q ≤ c.lim.1 ∧ k ≤ q ∧ RefB wx rb sb c 0 (8 * q) ∧ DecR wx db sb i sm 0 ∧ (k = 0 → q = 4) ∧ (k ≠ 0 → i = c.infI ∧ sm = c.text.extract 26 42)) ∨
  (∃ q, g = 0 ∧ last = 1 ∧ R = .good q ∧ q ≤ c.lim.1 ∧ RefB wx rb sb c 0 (8 * q) ∧ DecR wx db sb c.infI (c.text.extract 26 42) 0) ∨
  (∃ e p, g = 0 ∧ e ≠ 0 ∧ R = .bad e at_ ∧ RefB wx rb sb c e p)
theorem RRun.dead {c : Cfg} {rb sb db : Nat} {R : OpenRes} {wx : World} {k last at_ e : Nat} (hR : R = .bad e at_) (he : e ≠ 0) (h : ∃ p, RefB wx rb sb c e p) : RRun c rb sb db R wx 0 k last at_ := by
  obtain ⟨p, h⟩ := h
  exact .inr (.inr ⟨e, p, rfl, he, hR, h⟩)
/-- A block is done with: on to the next, or to the end. -/
theorem RRun.next {c : Cfg} {rb sb db : Nat} {R : OpenRes} {wx : World} {f k la q q' at_ : Nat} (hla : la < 2) (hR : R = if la = 1 then .good q' else c.openGo f (k + 1) q') (hf : c.lim.1 < q + (f + 1)) (hq : q < q') (hq' : q' ≤ c.lim.1) (hkq : k ≤ q)
    (h : RefB wx rb sb c 0 (8 * q')) (hd : DecR wx db sb c.infI (c.text.extract 26 42) 0) : ∃ g, g < f + 1 + 1 ∧ RRun c rb sb db R wx g (k + 1) la at_ := by
  by_cases h1 : la = 1
  · rw [if_pos h1] at hR
    exact ⟨0, by omega, .inr (.inl ⟨q', rfl, h1, hR, hq', h, hd⟩)⟩
  · rw [if_neg h1] at hR
    exact ⟨f + 1, by omega, .inl ⟨f, q', c.infI, _, rfl, by omega, hR, by omega, hq', by omega, h, hd, fun h => by omega, fun _ => ⟨rfl, rfl⟩⟩⟩
/-- What the head tells, unfolded. -/
theorem openGo_short {c : Cfg} {f k q : Nat} (h : c.lim.1 < q + 4) : c.openGo (f + 1) k q = .bad (wantE c.lim.2) q := by
  show (if _ then _ else _) = _; rw [if_pos h]
theorem openGo_meta {c : Cfg} {f k q : Nat} (h : ¬ c.lim.1 < q + 4) (hm : metaBad k (c.kindN q) (c.lenN q) = true) : c.openGo (f + 1) k q = .bad 5 q := by
  show (if _ then _ else _) = _; rw [if_neg h, if_pos hm]
theorem openGo_first {c : Cfg} {f k q : Nat} (h : ¬ c.lim.1 < q + 4) (hm : ¬ metaBad k (c.kindN q) (c.lenN q) = true) (hk : k = 0) :
    c.openGo (f + 1) k q = if c.lim.1 < q + 38 then .bad (wantE c.lim.2) q else if c.infoBad then .bad 4 q else if c.lastN q = 1 then .good (q + 38) else c.openGo f (k + 1) (q + 38) := by
  show (if _ then _ else _) = _; rw [if_neg h, if_neg hm, if_pos hk, hk]
theorem openGo_more {c : Cfg} {f k q : Nat} (h : ¬ c.lim.1 < q + 4) (hm : ¬ metaBad k (c.kindN q) (c.lenN q) = true) (hk : k ≠ 0) :
    c.openGo (f + 1) k q = if c.lim.1 < q + 4 + c.lenN q then .bad (wantE c.lim.2) q else if c.lastN q = 1 then .good (q + 4 + c.lenN q) else c.openGo f (k + 1) (q + 4 + c.lenN q) := by
  show (if _ then _ else _) = _; rw [if_neg h, if_neg hm, if_neg hk]
/-- A head that must not stand there, way by way. -/
theorem meta_ways {k ki le : Nat} (h : metaBad k ki le = true) :
    (((k : Int) == 0) = true ∧ ((ki : Int) == 127) = true) ∨ (((k : Int) == 0) = true ∧ ((ki : Int) == 127) = false ∧ ((ki : Int) == 0) = false) ∨ (((k : Int) == 0) = true ∧ ((ki : Int) == 127) = false ∧ ((ki : Int) == 0) = true ∧ ((le : Int) != 34) = true) ∨
    (((k : Int) == 0) = false ∧ ((ki : Int) == 127) = true) ∨ (((k : Int) == 0) = false ∧ ((ki : Int) == 127) = false ∧ ((ki : Int) == 0) = true) := by
  unfold metaBad at h
  simp only [Bool.or_eq_true, Bool.and_eq_true, decide_eq_true_eq, bne_iff_ne, ne_eq, decide_eq_decide] at h
  simp only [beq_iff_eq, beq_eq_false_iff_ne, ne_eq, bne_iff_ne]
  omega
theorem meta_no {k ki le : Nat} (h : ¬ metaBad k ki le = true) :
    (((k : Int) == 0) = true ∧ ((ki : Int) == 127) = false ∧ ((ki : Int) == 0) = true ∧ ((le : Int) != 34) = false) ∨ (((k : Int) == 0) = false ∧ ((ki : Int) == 127) = false ∧ ((ki : Int) == 0) = false) := by
  unfold metaBad at h
  simp only [Bool.or_eq_true, Bool.and_eq_true, decide_eq_true_eq, bne_iff_ne, ne_eq, decide_eq_decide] at h
  simp only [beq_iff_eq, beq_eq_false_iff_ne, ne_eq, bne_eq_false_iff_eq]
  omega
end Go.Proofs.YthigfpaajbejdaaGreatDoor
