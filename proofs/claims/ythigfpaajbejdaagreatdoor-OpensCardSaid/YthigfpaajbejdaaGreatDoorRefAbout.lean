/-
  flacpairref.Decoder.about, walked.
-/
import Derived.Test.YthigfpaajbejdaaGreatDoorRefOpen2
namespace Go.Proofs.YthigfpaajbejdaaGreatDoor
open Go.RowKit

/-- The document's decoder stands in block db: what the stream says of itself; where the next frame begins. -/
def DecR (w : World) (db sb : Nat) (i : Nat → Int) (sm : ByteArray) (at_ : Int) : Prop :=
  Blk w db #[.pointer (some ⟨sb, 0, none⟩), .int .i64 (i 0), .int .i64 (i 1), .int .i64 (i 2), .int .i64 (i 3), .int .i64 (i 4), .int .i64 (i 5), .int .i64 (i 6), .int .i64 (i 7), .string sm, .int .i64 at_, .int .i64 0, .int .i64 0, .bool false, .string ⟨#[]⟩, .int .i64 0, .int .i64 0, .int .i64 0] 110
theorem DecR.blk {w : World} {db sb : Nat} {i : Nat → Int} {sm : ByteArray} {at_ : Int} (h : DecR w db sb i sm at_) :
  Blk w db #[.pointer (some ⟨sb, 0, none⟩), .int .i64 (i 0), .int .i64 (i 1), .int .i64 (i 2), .int .i64 (i 3), .int .i64 (i 4), .int .i64 (i 5), .int .i64 (i 6), .int .i64 (i 7), .string sm, .int .i64 at_, .int .i64 0, .int .i64 0, .bool false, .string ⟨#[]⟩, .int .i64 0, .int .i64 0, .int .i64 0] 110 := h
/-- What the stream says of itself, as the decoders tell it. -/
def Cfg.infI (c : Cfg) (i : Nat) : Int := if i = 5 ∨ i = 6 then (c.inf i : Int) + 1 else c.inf i

theorem Cfg.rd_fal (c : Cfg) (hk : LimOk c) (st : Nat × Nat) (n : Nat) : c.fal (c.rd st n).1 = c.fal st.1 := by
  have hne := (wantE_ne hk.stop).1
  unfold rd
  split
  · rfl
  · rename_i h
    have h0 : st.1 = 0 := Decidable.not_not.1 h
    split
    · rw [h0]
    · unfold fal
      rw [if_neg hne, if_pos h0]
theorem Cfg.rd_zero (c : Cfg) (hk : LimOk c) (st : Nat × Nat) (n : Nat) (h : (c.rd st n).1 = 0) : st.1 = 0 ∧ (c.rd st n).2 = st.2 + n := by
  have hne := (wantE_ne hk.stop).1
  revert h
  unfold rd
  split
  · intro h; exact absurd h (by assumption)
  · rename_i h
    have h0 : st.1 = 0 := Decidable.not_not.1 h
    split
    · intro _; exact ⟨h0, rfl⟩
    · intro h2; exact absurd h2 hne
/-- What a read of n bits makes of the fault e and the place p. -/
def Goes (c : Cfg) (e p n e' p' : Nat) : Prop := (e' = 0 → e = 0 ∧ p' = p + n) ∧ c.fal e' = c.fal e
/-- One read, whatever the fault: what becomes of it. -/
theorem rBits_go {w : World} {rb sb : Nat} {c : Cfg} {e p : Nat} (hk : LimOk c) (h : RefB w rb sb c e p) (n : Nat) {z : Int} (hz : z = (n : Int)) (hn : n ≤ 36) (hp0 : p ≤ 8 * c.lim.1) :
    Calls Tryz.prog 46 #[.pointer (some ⟨rb, 0, none⟩), .int .i64 z] w fun ev w' => (∃ v : Nat, v < 68719476736 ∧ ev = .returned (.int .i64 v)) ∧ ∃ e' p', RefB w' rb sb c e' p' ∧ p' ≤ 8 * c.lim.1 ∧ Goes c e p n e' p' ∧ Fr [rb, sb] w w' := by
  subst hz
  refine (rBits_any (st := (e, p)) hk h n hn hp0).mono ?_
  rintro ev w' ⟨h1, h2, h3⟩
  exact ⟨h1, _, _, h2, Cfg.rd_le hp0, ⟨fun h => c.rd_zero hk (e, p) n h, c.rd_fal hk (e, p) n⟩, h3⟩
theorem rInf_ok {w : World} {rb sb : Nat} {c : Cfg} (hk : LimOk c) {p p' n : Nat} {x : Nat} (h : RefB w rb sb c 0 p) {z : Int} (hz : z = (n : Int)) (hx : c.bits p n = x) (hp' : p' = p + n) (hn : n ≤ 36) (hp : p' ≤ 8 * c.lim.1) :
    Calls Tryz.prog 46 #[.pointer (some ⟨rb, 0, none⟩), .int .i64 z] w fun e w' => e = .returned (.int .i64 x) ∧ RefB w' rb sb c 0 p' ∧ Fr [rb, sb] w w' := by
  subst hz
  subst hp'
  subst hx
  exact rBits_ok hk h n (by omega) hp
theorem rText_ok {w : World} {rb sb : Nat} {c : Cfg} {p q n : Nat} (hk : LimOk c) (h : RefB w rb sb c 0 p) (hq : p = 8 * q) {z : Int} (hz : z = (n : Int)) (hn : n ≤ 16) (hin : q + n ≤ c.lim.1) :
    Calls Tryz.prog 44 #[.pointer (some ⟨rb, 0, none⟩), .int .i64 z] w fun ev w' => ev = .returned (.string (c.text.extract q (q + n))) ∧ RefB w' rb sb c 0 (8 * (q + n)) ∧ Fr [rb, sb] w w' := by
  subst hz
  refine (rText_any (q := q) hk h (by omega) (fun _ => hq) hn).mono ?_
  rintro ev w' ⟨t, e', p', rfl, h2, h3, h4, h5⟩
  rcases h5 with ⟨_, _, rfl, rfl, rfl⟩ | ⟨h6, _⟩
  · exact ⟨rfl, h2, h4⟩
  · exact absurd ⟨rfl, hin⟩ h6
theorem rText_not {w : World} {rb sb : Nat} {c : Cfg} {e p q n : Nat} (hk : LimOk c) (h : RefB w rb sb c e p) (hp : p ≤ 8 * c.lim.1) (hq : e = 0 → p = 8 * q) {z : Int} (hz : z = (n : Int)) (hn : n ≤ 16) (hin : ¬ (e = 0 ∧ q + n ≤ c.lim.1)) :
    Calls Tryz.prog 44 #[.pointer (some ⟨rb, 0, none⟩), .int .i64 z] w fun ev w' => ∃ (t : ByteArray) (p' : Nat), ev = .returned (.string t) ∧ RefB w' rb sb c (c.fal e) p' ∧ p' ≤ 8 * c.lim.1 ∧ Fr [rb, sb] w w' := by
  subst hz
  refine (rText_any (q := q) hk h hp hq hn).mono ?_
  rintro ev w' ⟨t, e', p', rfl, h2, h3, h4, h5⟩
  rcases h5 with ⟨h6, h7, _⟩ | ⟨_, rfl⟩
  · exact absurd ⟨h6, h7⟩ hin
  · exact ⟨t, p', rfl, h2, h3, h4⟩

/-- What about gives where all is there. -/
def AboutOk (rb sb db : Nat) (c : Cfg) (at_ : Int) (k : Nat) (w : World) (ev : Ending) (w' : World) : Prop := ev = .returned (.tuple #[]) ∧ RefB w' rb sb c k 336 ∧ DecR w' db sb c.infI (c.text.extract 26 42) at_ ∧ Fr [rb, sb, db] w w'
/-- What it gives where it comes too short. -/
def AboutNot (rb sb db : Nat) (c : Cfg) (at_ : Int) (e : Nat) (w : World) (ev : Ending) (w' : World) : Prop := ∃ p' i sm, ev = .returned (.tuple #[]) ∧ RefB w' rb sb c (c.fal e) p' ∧ p' ≤ 8 * c.lim.1 ∧ DecR w' db sb i sm at_ ∧ Fr [rb, sb, db] w w'
theorem fr9 (b : Nat) (w : World) (x0 x1 x2 x3 x4 x5 x6 x7 x8 : Value) : Fr [b] w (((((((((w.setCell ⟨b, 1, none⟩ x0).setCell ⟨b, 2, none⟩ x1).setCell ⟨b, 3, none⟩ x2).setCell ⟨b, 4, none⟩ x3).setCell ⟨b, 5, none⟩ x4).setCell ⟨b, 6, none⟩ x5).setCell ⟨b, 7, none⟩ x6).setCell ⟨b, 8, none⟩ x7).setCell ⟨b, 9, none⟩ x8) :=
  have m : b ∈ [b] := List.mem_singleton.2 rfl
  (((((((((Fr.refl [b] w).set' (a := ⟨b, 1, none⟩) x0 m).set' (a := ⟨b, 2, none⟩) x1 m).set' (a := ⟨b, 3, none⟩) x2 m).set' (a := ⟨b, 4, none⟩) x3 m).set' (a := ⟨b, 5, none⟩) x4 m).set' (a := ⟨b, 6, none⟩) x5 m).set' (a := ⟨b, 7, none⟩) x6 m).set' (a := ⟨b, 8, none⟩) x7 m).set' (a := ⟨b, 9, none⟩) x8 m
theorem abt_fr {rb sb N : Nat} {w0 w w' : World} (h : Fr [rb, sb, N] w0 w) (hf : Fr [rb, sb] w w') (j : Nat) (v : Value) : Fr [rb, sb, N] w0 (w'.setCell ⟨N, j, none⟩ v) :=
  (h.same (hf.mono (fun k hk => .inl (by simp at hk ⊢; omega)))).set' v (by simp)
theorem abt_rb {rb sb N : Nat} {c : Cfg} {e p : Nat} {w : World} (h : RefB w rb sb c e p) (h1 : rb ≠ N) (h2 : sb ≠ N) (j : Nat) (v : Value) : RefB (w.setCell ⟨N, j, none⟩ v) rb sb c e p :=
  h.keep (S := [N]) (Fr.set (a := ⟨N, j, none⟩) v (List.mem_singleton.2 rfl)) (by simpa using h1) (by simpa using h2)
theorem abt_fin {rb sb db N : Nat} {w w0 w9 : World} (hF0 : Fr [] w w0) (hN : w.heap.size ≤ N) (h : Fr [rb, sb, N] w0 w9) (x0 x1 x2 x3 x4 x5 x6 x7 x8 : Value) :
    Fr [rb, sb, db] w (((((((((w9.setCell ⟨db, 1, none⟩ x0).setCell ⟨db, 2, none⟩ x1).setCell ⟨db, 3, none⟩ x2).setCell ⟨db, 4, none⟩ x3).setCell ⟨db, 5, none⟩ x4).setCell ⟨db, 6, none⟩ x5).setCell ⟨db, 7, none⟩ x6).setCell ⟨db, 8, none⟩ x7).setCell ⟨db, 9, none⟩ x8) := by
  refine ((hF0.mono (T := [rb, sb, db]) (by simp)).trans h (fun k hk => ?_)).trans (fr9 db w9 _ _ _ _ _ _ _ _ _) (fun k hk => .inl (by simp at hk ⊢; omega))
  simp only [List.mem_cons, List.not_mem_nil, or_false] at hk ⊢
  rcases hk with rfl | rfl | rfl
  · exact .inl (.inl rfl)
  · exact .inl (.inr (.inl rfl))
  · exact .inr hN
theorem abt_chain {c : Cfg} {e p e1 p1 e2 p2 e3 p3 e4 p4 e5 p5 e6 p6 e7 p7 e8 p8 : Nat} (h0 : e = 0 → p = 64) (hbad : ¬ (e = 0 ∧ 42 ≤ c.lim.1))
    (h1 : Goes c e p 16 e1 p1) (h2 : Goes c e1 p1 16 e2 p2)
    (h3 : Goes c e2 p2 24 e3 p3) (h4 : Goes c e3 p3 24 e4 p4)
    (h5 : Goes c e4 p4 20 e5 p5) (h6 : Goes c e5 p5 3 e6 p6)
    (h7 : Goes c e6 p6 5 e7 p7) (h8 : Goes c e7 p7 36 e8 p8) :
    Hid ((e8 = 0 → p8 = 8 * 26) ∧ ¬ (e8 = 0 ∧ 26 + 16 ≤ c.lim.1) ∧ c.fal e8 = c.fal e) := by
  have a1 := h1.1
  have a2 := h2.1
  have a3 := h3.1
  have a4 := h4.1
  have a5 := h5.1
  have a6 := h6.1
  have a7 := h7.1
  have a8 := h8.1
  have all : e8 = 0 → e = 0 ∧ p8 = 8 * 26 := fun h => by
    obtain ⟨z7, q8⟩ := a8 h
    obtain ⟨z6, q7⟩ := a7 z7
    obtain ⟨z5, q6⟩ := a6 z6
    obtain ⟨z4, q5⟩ := a5 z5
    obtain ⟨z3, q4⟩ := a4 z4
    obtain ⟨z2, q3⟩ := a3 z3
    obtain ⟨z1, q2⟩ := a2 z2
    obtain ⟨z0, q1⟩ := a1 z1
    have := h0 z0
    exact ⟨z0, by omega⟩
  exact ⟨fun h => (all h).2, fun h => hbad ⟨(all h.1).1, h.2⟩, by rw [h8.2, h7.2, h6.2, h5.2, h4.2, h3.2, h2.2, h1.2]⟩
set_option maxRecDepth 100000 in
set_option maxHeartbeats 4000000 in
theorem rAbout_good {w : World} {rb sb db : Nat} {c : Cfg} {i : Nat → Int} {sm : ByteArray} {at_ : Int} (hk : LimOk c) (h : RefB w rb sb c 0 64) (hd : DecR w db sb i sm at_) (hin : 42 ≤ c.lim.1) (hb : c.infoBad = false) :
    Calls Tryz.prog 47 #[.pointer (some ⟨db, 0, none⟩), .pointer (some ⟨rb, 0, none⟩)] w (AboutOk rb sb db c at_ 0 w) := by
  have hN0 := Blk.new w #[.int .i64 0, .int .i64 0, .int .i64 0, .int .i64 0, .int .i64 0, .int .i64 0, .int .i64 0, .int .i64 0, .string ⟨#[]⟩] 108
  have hF0 := Fr.alloc [] w (.cells #[.int .i64 0, .int .i64 0, .int .i64 0, .int .i64 0, .int .i64 0, .int .i64 0, .int .i64 0, .int .i64 0, .string ⟨#[]⟩] 108)
  have hr0 := h.still hF0
  have hd0 := hF0.blk hd.blk (by simp)
  have hrN : rb ≠ w.heap.size := Nat.ne_of_lt h.blk.lt
  have hsN : sb ≠ w.heap.size := Nat.ne_of_lt h.doc.blk.lt
  have hdN : db ≠ w.heap.size := Nat.ne_of_lt hd.blk.lt
  have hrd : rb ≠ db := h.blk.ne hd.blk (by decide)
  have hsd : sb ≠ db := h.doc.blk.ne hd.blk (by decide)
  obtain ⟨tx, htx⟩ : ∃ tx, tx = c.text.extract 26 42 := ⟨_, rfl⟩
  obtain ⟨x0, hx0⟩ : ∃ x, x = c.inf 0 := ⟨_, rfl⟩
  have hxl0 := c.inf_lt 0 (by decide)
  rw [← hx0] at hxl0
  obtain ⟨x1, hx1⟩ : ∃ x, x = c.inf 1 := ⟨_, rfl⟩
  have hxl1 := c.inf_lt 1 (by decide)
  rw [← hx1] at hxl1
  obtain ⟨x2, hx2⟩ : ∃ x, x = c.inf 2 := ⟨_, rfl⟩
  have hxl2 := c.inf_lt 2 (by decide)
  rw [← hx2] at hxl2
  obtain ⟨x3, hx3⟩ : ∃ x, x = c.inf 3 := ⟨_, rfl⟩
  have hxl3 := c.inf_lt 3 (by decide)
  rw [← hx3] at hxl3
  obtain ⟨x4, hx4⟩ : ∃ x, x = c.inf 4 := ⟨_, rfl⟩
  have hxl4 := c.inf_lt 4 (by decide)
  rw [← hx4] at hxl4
  obtain ⟨x5, hx5⟩ : ∃ x, x = c.inf 5 := ⟨_, rfl⟩
  have hxl5 := c.inf_lt 5 (by decide)
  rw [← hx5] at hxl5
  obtain ⟨x6, hx6⟩ : ∃ x, x = c.inf 6 := ⟨_, rfl⟩
  have hxl6 := c.inf_lt 6 (by decide)
  rw [← hx6] at hxl6
  obtain ⟨x7, hx7⟩ : ∃ x, x = c.inf 7 := ⟨_, rfl⟩
  have hxl7 := c.inf_lt 7 (by decide)
  rw [← hx7] at hxl7
  have k0 := fun W (hW : RefB W rb sb c 0 64) => Hid.mk2 (rInf_ok (x := x0) hk hW (z := 16) (n := 16) rfl hx0.symm (p' := 80) rfl (by decide) (by omega))
  have k1 := fun W (hW : RefB W rb sb c 0 80) => Hid.mk2 (rInf_ok (x := x1) hk hW (z := 16) (n := 16) rfl hx1.symm (p' := 96) rfl (by decide) (by omega))
  have k2 := fun W (hW : RefB W rb sb c 0 96) => Hid.mk2 (rInf_ok (x := x2) hk hW (z := 24) (n := 24) rfl hx2.symm (p' := 120) rfl (by decide) (by omega))
  have k3 := fun W (hW : RefB W rb sb c 0 120) => Hid.mk2 (rInf_ok (x := x3) hk hW (z := 24) (n := 24) rfl hx3.symm (p' := 144) rfl (by decide) (by omega))
  have k4 := fun W (hW : RefB W rb sb c 0 144) => Hid.mk2 (rInf_ok (x := x4) hk hW (z := 20) (n := 20) rfl hx4.symm (p' := 164) rfl (by decide) (by omega))
  have k5 := fun W (hW : RefB W rb sb c 0 164) => Hid.mk2 (rInf_ok (x := x5) hk hW (z := 3) (n := 3) rfl hx5.symm (p' := 167) rfl (by decide) (by omega))
  have k6 := fun W (hW : RefB W rb sb c 0 167) => Hid.mk2 (rInf_ok (x := x6) hk hW (z := 5) (n := 5) rfl hx6.symm (p' := 172) rfl (by decide) (by omega))
  have k7 := fun W (hW : RefB W rb sb c 0 172) => Hid.mk2 (rInf_ok (x := x7) hk hW (z := 36) (n := 36) rfl hx7.symm (p' := 208) rfl (by decide) (by omega))
  have kt := fun W (hW : RefB W rb sb c 0 208) => Hid.mk2 (rText_ok (q := 26) (n := 16) hk hW rfl (z := 16) rfl (by decide) (by omega))
  simp only [Nat.reduceAdd, Nat.reduceMul, ← htx] at kt
  have hib := hb
  unfold Cfg.infoBad at hib
  rw [← hx0, ← hx1, ← hx4, ← hx6] at hib
  have hX : Hid (c.infI 0 = x0 ∧ c.infI 1 = x1 ∧ c.infI 2 = x2 ∧ c.infI 3 = x3 ∧ c.infI 4 = x4 ∧ c.infI 5 = 1 + (x5 : Int) ∧ c.infI 6 = 1 + (x6 : Int) ∧ c.infI 7 = x7 ∧ c.text.extract 26 42 = tx) := by
    unfold Hid Cfg.infI
    rw [hx0, hx1, hx2, hx3, hx4, hx5, hx6, hx7, htx]
    exact ⟨rfl, rfl, rfl, rfl, rfl, Int.add_comm _ _, Int.add_comm _ _, rfl, rfl⟩
  clear hx0 hx1 hx2 hx3 hx4 hx5 hx6 hx7 htx hin hb
  simp only [Bool.or_eq_false_iff, decide_eq_false_iff_not] at hib
  obtain ⟨⟨⟨⟨b1, b2⟩, b3⟩, b4⟩, b5⟩ := hib
  have g1 : ¬ (x0 : Int) < 16 := by omega
  have g2 : ¬ (x1 : Int) < (x0 : Int) := by omega
  have g3 : ¬ (4096 : Int) < (x1 : Int) := by omega
  have g4 : ¬ (1 + (x6 : Int)) < 4 := by omega
  have g5 : ((x4 : Int) == 0) = false := by simpa using b5
  clear b1 b2 b3 b4 b5
  go_enter Tryz.func47, Tryz.ntmps47
  go_wp2_with fail
  have hFF : Fr [rb, sb, w.heap.size] (w.alloc (.cells #[.int .i64 0, .int .i64 0, .int .i64 0, .int .i64 0, .int .i64 0, .int .i64 0, .int .i64 0, .int .i64 0, .string ⟨#[]⟩] 108)) (w.alloc (.cells #[.int .i64 0, .int .i64 0, .int .i64 0, .int .i64 0, .int .i64 0, .int .i64 0, .int .i64 0, .int .i64 0, .string ⟨#[]⟩] 108)) := Fr.refl _ _
  obtain ⟨N, hNe⟩ : ∃ N, N = w.heap.size := ⟨_, rfl⟩
  rw [← hNe] at hN0 hrN hsN hdN hFF ⊢
  have hNw : Hid (w.heap.size ≤ N) := Nat.le_of_eq hNe.symm
  clear hNe
  generalize w.alloc (.cells #[.int .i64 0, .int .i64 0, .int .i64 0, .int .i64 0, .int .i64 0, .int .i64 0, .int .i64 0, .int .i64 0, .string ⟨#[]⟩] 108) = w0 at *
  have hNS : N ∉ [rb, sb] := by simp; omega
  have hDS : db ∉ [rb, sb, N] := by simp; omega
  go_wp2_with (first
    | (go_at_call 46; (with_reducible refine ((k0 _ hr0).out).mono ?_); rintro e w1 ⟨rfl, hq1, hf1⟩; have hM1 := hf1.blk hN0 hNS; have hc1 := hM1.cell; have hz1 := hM1.frozen; have hN1 : Blk (w1.setCell ⟨N, 0, none⟩ (.int .i64 x0)) N #[.int .i64 x0, .int .i64 0, .int .i64 0, .int .i64 0, .int .i64 0, .int .i64 0, .int .i64 0, .int .i64 0, .string ⟨#[]⟩] 108 := hM1.set 0 (.int .i64 x0); have hr1 := abt_rb hq1 hrN hsN 0 (.int .i64 x0); have hF1 := abt_fr hFF hf1 0 (.int .i64 x0))
    | (go_at_call 46; (with_reducible refine ((k1 _ hr1).out).mono ?_); rintro e w2 ⟨rfl, hq2, hf2⟩; have hM2 := hf2.blk hN1 hNS; have hc2 := hM2.cell; have hz2 := hM2.frozen; have hN2 : Blk (w2.setCell ⟨N, 1, none⟩ (.int .i64 x1)) N #[.int .i64 x0, .int .i64 x1, .int .i64 0, .int .i64 0, .int .i64 0, .int .i64 0, .int .i64 0, .int .i64 0, .string ⟨#[]⟩] 108 := hM2.set 1 (.int .i64 x1); have hr2 := abt_rb hq2 hrN hsN 1 (.int .i64 x1); have hF2 := abt_fr hF1 hf2 1 (.int .i64 x1))
    | (go_at_call 46; (with_reducible refine ((k2 _ hr2).out).mono ?_); rintro e w3 ⟨rfl, hq3, hf3⟩; have hM3 := hf3.blk hN2 hNS; have hc3 := hM3.cell; have hz3 := hM3.frozen; have hN3 : Blk (w3.setCell ⟨N, 2, none⟩ (.int .i64 x2)) N #[.int .i64 x0, .int .i64 x1, .int .i64 x2, .int .i64 0, .int .i64 0, .int .i64 0, .int .i64 0, .int .i64 0, .string ⟨#[]⟩] 108 := hM3.set 2 (.int .i64 x2); have hr3 := abt_rb hq3 hrN hsN 2 (.int .i64 x2); have hF3 := abt_fr hF2 hf3 2 (.int .i64 x2))
    | (go_at_call 46; (with_reducible refine ((k3 _ hr3).out).mono ?_); rintro e w4 ⟨rfl, hq4, hf4⟩; have hM4 := hf4.blk hN3 hNS; have hc4 := hM4.cell; have hz4 := hM4.frozen; have hN4 : Blk (w4.setCell ⟨N, 3, none⟩ (.int .i64 x3)) N #[.int .i64 x0, .int .i64 x1, .int .i64 x2, .int .i64 x3, .int .i64 0, .int .i64 0, .int .i64 0, .int .i64 0, .string ⟨#[]⟩] 108 := hM4.set 3 (.int .i64 x3); have hr4 := abt_rb hq4 hrN hsN 3 (.int .i64 x3); have hF4 := abt_fr hF3 hf4 3 (.int .i64 x3))
    | (go_at_call 46; (with_reducible refine ((k4 _ hr4).out).mono ?_); rintro e w5 ⟨rfl, hq5, hf5⟩; have hM5 := hf5.blk hN4 hNS; have hc5 := hM5.cell; have hz5 := hM5.frozen; have hN5 : Blk (w5.setCell ⟨N, 4, none⟩ (.int .i64 x4)) N #[.int .i64 x0, .int .i64 x1, .int .i64 x2, .int .i64 x3, .int .i64 x4, .int .i64 0, .int .i64 0, .int .i64 0, .string ⟨#[]⟩] 108 := hM5.set 4 (.int .i64 x4); have hr5 := abt_rb hq5 hrN hsN 4 (.int .i64 x4); have hF5 := abt_fr hF4 hf5 4 (.int .i64 x4))
    | (go_at_call 46; (with_reducible refine ((k5 _ hr5).out).mono ?_); rintro e w6 ⟨rfl, hq6, hf6⟩; have hM6 := hf6.blk hN5 hNS; have hc6 := hM6.cell; have hz6 := hM6.frozen; have hN6 : Blk (w6.setCell ⟨N, 5, none⟩ (.int .i64 (1 + (x5 : Int)))) N #[.int .i64 x0, .int .i64 x1, .int .i64 x2, .int .i64 x3, .int .i64 x4, .int .i64 (1 + (x5 : Int)), .int .i64 0, .int .i64 0, .string ⟨#[]⟩] 108 := hM6.set 5 (.int .i64 (1 + (x5 : Int))); have hr6 := abt_rb hq6 hrN hsN 5 (.int .i64 (1 + (x5 : Int))); have hF6 := abt_fr hF5 hf6 5 (.int .i64 (1 + (x5 : Int))))
    | (go_at_call 46; (with_reducible refine ((k6 _ hr6).out).mono ?_); rintro e w7 ⟨rfl, hq7, hf7⟩; have hM7 := hf7.blk hN6 hNS; have hc7 := hM7.cell; have hz7 := hM7.frozen; have hN7 : Blk (w7.setCell ⟨N, 6, none⟩ (.int .i64 (1 + (x6 : Int)))) N #[.int .i64 x0, .int .i64 x1, .int .i64 x2, .int .i64 x3, .int .i64 x4, .int .i64 (1 + (x5 : Int)), .int .i64 (1 + (x6 : Int)), .int .i64 0, .string ⟨#[]⟩] 108 := hM7.set 6 (.int .i64 (1 + (x6 : Int))); have hr7 := abt_rb hq7 hrN hsN 6 (.int .i64 (1 + (x6 : Int))); have hF7 := abt_fr hF6 hf7 6 (.int .i64 (1 + (x6 : Int))))
    | (go_at_call 46; (with_reducible refine ((k7 _ hr7).out).mono ?_); rintro e w8 ⟨rfl, hq8, hf8⟩; have hM8 := hf8.blk hN7 hNS; have hc8 := hM8.cell; have hz8 := hM8.frozen; have hN8 : Blk (w8.setCell ⟨N, 7, none⟩ (.int .i64 x7)) N #[.int .i64 x0, .int .i64 x1, .int .i64 x2, .int .i64 x3, .int .i64 x4, .int .i64 (1 + (x5 : Int)), .int .i64 (1 + (x6 : Int)), .int .i64 x7, .string ⟨#[]⟩] 108 := hM8.set 7 (.int .i64 x7); have hr8 := abt_rb hq8 hrN hsN 7 (.int .i64 x7); have hF8 := abt_fr hF7 hf8 7 (.int .i64 x7))
    | (go_at_call 44; (with_reducible refine ((kt _ hr8).out).mono ?_); rintro e w9 ⟨rfl, hq9, hf9⟩; have hM9 := hf9.blk hN8 hNS; have hc9 := hM9.cell; have hz9 := hM9.frozen; have hN9 : Blk (w9.setCell ⟨N, 8, none⟩ (.string tx)) N #[.int .i64 x0, .int .i64 x1, .int .i64 x2, .int .i64 x3, .int .i64 x4, .int .i64 (1 + (x5 : Int)), .int .i64 (1 + (x6 : Int)), .int .i64 x7, .string tx] 108 := hM9.set 8 (.string tx); have hcN := hN9.cell; have hr9 := abt_rb hq9 hrN hsN 8 (.string tx); have hF9 := abt_fr hF8 hf9 8 (.string tx); have hc9x := hr9.blk.cell; have hd9 := hF9.blk hd0 hDS; have hcd := hd9.cell; have hzd := hd9.frozen))
  go_end0
  have D0 : Blk ((w9.setCell ⟨N, 8, none⟩ (.string tx)).setCell ⟨db, 1, none⟩ (.int .i64 x0)) db #[.pointer (some ⟨sb, 0, none⟩), .int .i64 x0, .int .i64 (i 1), .int .i64 (i 2), .int .i64 (i 3), .int .i64 (i 4), .int .i64 (i 5), .int .i64 (i 6), .int .i64 (i 7), .string sm, .int .i64 at_, .int .i64 0, .int .i64 0, .bool false, .string ⟨#[]⟩, .int .i64 0, .int .i64 0, .int .i64 0] 110 := hd9.set 1 _
  have D1 : Blk (((w9.setCell ⟨N, 8, none⟩ (.string tx)).setCell ⟨db, 1, none⟩ (.int .i64 x0)).setCell ⟨db, 2, none⟩ (.int .i64 x1)) db #[.pointer (some ⟨sb, 0, none⟩), .int .i64 x0, .int .i64 x1, .int .i64 (i 2), .int .i64 (i 3), .int .i64 (i 4), .int .i64 (i 5), .int .i64 (i 6), .int .i64 (i 7), .string sm, .int .i64 at_, .int .i64 0, .int .i64 0, .bool false, .string ⟨#[]⟩, .int .i64 0, .int .i64 0, .int .i64 0] 110 := D0.set 2 _
  have D2 : Blk ((((w9.setCell ⟨N, 8, none⟩ (.string tx)).setCell ⟨db, 1, none⟩ (.int .i64 x0)).setCell ⟨db, 2, none⟩ (.int .i64 x1)).setCell ⟨db, 3, none⟩ (.int .i64 x2)) db #[.pointer (some ⟨sb, 0, none⟩), .int .i64 x0, .int .i64 x1, .int .i64 x2, .int .i64 (i 3), .int .i64 (i 4), .int .i64 (i 5), .int .i64 (i 6), .int .i64 (i 7), .string sm, .int .i64 at_, .int .i64 0, .int .i64 0, .bool false, .string ⟨#[]⟩, .int .i64 0, .int .i64 0, .int .i64 0] 110 := D1.set 3 _
  have D3 : Blk (((((w9.setCell ⟨N, 8, none⟩ (.string tx)).setCell ⟨db, 1, none⟩ (.int .i64 x0)).setCell ⟨db, 2, none⟩ (.int .i64 x1)).setCell ⟨db, 3, none⟩ (.int .i64 x2)).setCell ⟨db, 4, none⟩ (.int .i64 x3)) db #[.pointer (some ⟨sb, 0, none⟩), .int .i64 x0, .int .i64 x1, .int .i64 x2, .int .i64 x3, .int .i64 (i 4), .int .i64 (i 5), .int .i64 (i 6), .int .i64 (i 7), .string sm, .int .i64 at_, .int .i64 0, .int .i64 0, .bool false, .string ⟨#[]⟩, .int .i64 0, .int .i64 0, .int .i64 0] 110 := D2.set 4 _
  have D4 : Blk ((((((w9.setCell ⟨N, 8, none⟩ (.string tx)).setCell ⟨db, 1, none⟩ (.int .i64 x0)).setCell ⟨db, 2, none⟩ (.int .i64 x1)).setCell ⟨db, 3, none⟩ (.int .i64 x2)).setCell ⟨db, 4, none⟩ (.int .i64 x3)).setCell ⟨db, 5, none⟩ (.int .i64 x4)) db #[.pointer (some ⟨sb, 0, none⟩), .int .i64 x0, .int .i64 x1, .int .i64 x2, .int .i64 x3, .int .i64 x4, .int .i64 (i 5), .int .i64 (i 6), .int .i64 (i 7), .string sm, .int .i64 at_, .int .i64 0, .int .i64 0, .bool false, .string ⟨#[]⟩, .int .i64 0, .int .i64 0, .int .i64 0] 110 := D3.set 5 _
  have D5 : Blk (((((((w9.setCell ⟨N, 8, none⟩ (.string tx)).setCell ⟨db, 1, none⟩ (.int .i64 x0)).setCell ⟨db, 2, none⟩ (.int .i64 x1)).setCell ⟨db, 3, none⟩ (.int .i64 x2)).setCell ⟨db, 4, none⟩ (.int .i64 x3)).setCell ⟨db, 5, none⟩ (.int .i64 x4)).setCell ⟨db, 6, none⟩ (.int .i64 (1 + (x5 : Int)))) db #[.pointer (some ⟨sb, 0, none⟩), .int .i64 x0, .int .i64 x1, .int .i64 x2, .int .i64 x3, .int .i64 x4, .int .i64 (1 + (x5 : Int)), .int .i64 (i 6), .int .i64 (i 7), .string sm, .int .i64 at_, .int .i64 0, .int .i64 0, .bool false, .string ⟨#[]⟩, .int .i64 0, .int .i64 0, .int .i64 0] 110 := D4.set 6 _
  have D6 : Blk ((((((((w9.setCell ⟨N, 8, none⟩ (.string tx)).setCell ⟨db, 1, none⟩ (.int .i64 x0)).setCell ⟨db, 2, none⟩ (.int .i64 x1)).setCell ⟨db, 3, none⟩ (.int .i64 x2)).setCell ⟨db, 4, none⟩ (.int .i64 x3)).setCell ⟨db, 5, none⟩ (.int .i64 x4)).setCell ⟨db, 6, none⟩ (.int .i64 (1 + (x5 : Int)))).setCell ⟨db, 7, none⟩ (.int .i64 (1 + (x6 : Int)))) db #[.pointer (some ⟨sb, 0, none⟩), .int .i64 x0, .int .i64 x1, .int .i64 x2, .int .i64 x3, .int .i64 x4, .int .i64 (1 + (x5 : Int)), .int .i64 (1 + (x6 : Int)), .int .i64 (i 7), .string sm, .int .i64 at_, .int .i64 0, .int .i64 0, .bool false, .string ⟨#[]⟩, .int .i64 0, .int .i64 0, .int .i64 0] 110 := D5.set 7 _
  have D7 : Blk (((((((((w9.setCell ⟨N, 8, none⟩ (.string tx)).setCell ⟨db, 1, none⟩ (.int .i64 x0)).setCell ⟨db, 2, none⟩ (.int .i64 x1)).setCell ⟨db, 3, none⟩ (.int .i64 x2)).setCell ⟨db, 4, none⟩ (.int .i64 x3)).setCell ⟨db, 5, none⟩ (.int .i64 x4)).setCell ⟨db, 6, none⟩ (.int .i64 (1 + (x5 : Int)))).setCell ⟨db, 7, none⟩ (.int .i64 (1 + (x6 : Int)))).setCell ⟨db, 8, none⟩ (.int .i64 x7)) db #[.pointer (some ⟨sb, 0, none⟩), .int .i64 x0, .int .i64 x1, .int .i64 x2, .int .i64 x3, .int .i64 x4, .int .i64 (1 + (x5 : Int)), .int .i64 (1 + (x6 : Int)), .int .i64 x7, .string sm, .int .i64 at_, .int .i64 0, .int .i64 0, .bool false, .string ⟨#[]⟩, .int .i64 0, .int .i64 0, .int .i64 0] 110 := D6.set 8 _
  have D8 : Blk ((((((((((w9.setCell ⟨N, 8, none⟩ (.string tx)).setCell ⟨db, 1, none⟩ (.int .i64 x0)).setCell ⟨db, 2, none⟩ (.int .i64 x1)).setCell ⟨db, 3, none⟩ (.int .i64 x2)).setCell ⟨db, 4, none⟩ (.int .i64 x3)).setCell ⟨db, 5, none⟩ (.int .i64 x4)).setCell ⟨db, 6, none⟩ (.int .i64 (1 + (x5 : Int)))).setCell ⟨db, 7, none⟩ (.int .i64 (1 + (x6 : Int)))).setCell ⟨db, 8, none⟩ (.int .i64 x7)).setCell ⟨db, 9, none⟩ (.string tx)) db #[.pointer (some ⟨sb, 0, none⟩), .int .i64 x0, .int .i64 x1, .int .i64 x2, .int .i64 x3, .int .i64 x4, .int .i64 (1 + (x5 : Int)), .int .i64 (1 + (x6 : Int)), .int .i64 x7, .string tx, .int .i64 at_, .int .i64 0, .int .i64 0, .bool false, .string ⟨#[]⟩, .int .i64 0, .int .i64 0, .int .i64 0] 110 := D7.set 9 _
  obtain ⟨y0, y1, y2, y3, y4, y5, y6, y7, yt⟩ := hX.out
  refine ⟨rfl, hr9.keep (fr9 db _ _ _ _ _ _ _ _ _ _) (by simpa using hrd) (by simpa using hsd), ?_, abt_fin hF0 hNw.out hF9 _ _ _ _ _ _ _ _ _⟩
  unfold DecR
  rw [y0, y1, y2, y3, y4, y5, y6, y7, yt]
  exact D8

end Go.Proofs.YthigfpaajbejdaaGreatDoor
