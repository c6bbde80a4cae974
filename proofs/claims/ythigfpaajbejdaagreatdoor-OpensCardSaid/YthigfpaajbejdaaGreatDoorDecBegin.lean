/-
  The head of a block of metadata, as the program takes it apart: plain laws.
-/
/-
  flac.decoder.begin, walked: the marker, and the blocks of metadata.
-/
import Derived.Test.YthigfpaajbejdaaGreatDoorRefOpen
import Derived.Test.YthigfpaajbejdaaGreatDoorDecBlock
import Derived.Test.YthigfpaajbejdaaGreatDoorRefOpen4
import Derived.IntWalk
namespace Go.Proofs.YthigfpaajbejdaaGreatDoor
open Go.RowKit

theorem hd_small (x : Nat) (h : x < 9223372036854775808) : IntKind.i64.wrap (x : Int) = (x : Int) := IntWalk.i64_in _ (by omega)
theorem hd_or (a b : Nat) (ha : a < 9223372036854775808) (hb : b < 9223372036854775808) : bits .or .i64 (a : Int) (b : Int) = ((a ||| b : Nat) : Int) := by
  have hx : a ||| b < 2 ^ 63 := Nat.or_lt_two_pow (by omega) (by omega)
  show IntKind.i64.wrap ((BitVec.ofInt 64 (a : Int) ||| BitVec.ofInt 64 (b : Int)).toNat : Int) = _
  rw [BitVec.toNat_or, ofInt_u64 a (by omega), ofInt_u64 b (by omega)]
  exact hd_small _ (by omega)
theorem hd_len (x1 x2 x3 : Nat) (h1 : x1 < 256) (h2 : x2 < 256) (h3 : x3 < 256) :
    bits .or .i64 (bits .or .i64 ((x1 : Int) * 65536) ((x2 : Int) * 256)) (x3 : Int) = ((x1 * 65536 + x2 * 256 + x3 : Nat) : Int) := by
  have e1 : bits .or .i64 ((x1 : Int) * 65536) ((x2 : Int) * 256) = ((x1 * 65536 + x2 * 256 : Nat) : Int) := by
    rw [show ((x1 : Int) * 65536) = ((x1 * 65536 : Nat) : Int) by omega, show ((x2 : Int) * 256) = ((x2 * 256 : Nat) : Int) by omega]
    refine (hd_or _ _ (by omega) (by omega)).trans ?_
    rw [nat_join 16 (x1 * 65536) (x2 * 256) (by omega) (by omega)]
  rw [e1]
  refine (hd_or _ _ (by omega) (by omega)).trans ?_
  rw [nat_join 8 (x1 * 65536 + x2 * 256) x3 (by omega) (by omega)]
theorem hd_kind (b : Nat) (h : b < 256) : bits .and .u8 (b : Int) 127 = ((b % 128 : Nat) : Int) := by
  refine (u8_and_nat b 127 h (by decide)).trans ?_
  rw [nat_mask7]
set_option maxRecDepth 100000 in
theorem hd_top : ∀ b : Fin 256, b.val &&& 128 = 128 * (b.val / 128) := by decide +kernel
theorem hd_last (b : Nat) (h : b < 256) : bits .and .u8 (b : Int) 128 = ((128 * (b / 128) : Nat) : Int) := by
  refine (u8_and_nat b 128 h (by decide)).trans ?_
  rw [hd_top ⟨b, h⟩]
theorem hd_is (b : Nat) (h : b < 256) : (bits .and .u8 (b : Int) 128 != 0) = decide (b / 128 = 1) := by
  rw [hd_last b h]
  by_cases h1 : b / 128 = 1
  · rw [decide_eq_true h1, h1]; rfl
  · have h0 : b / 128 = 0 := by omega
    rw [decide_eq_false h1, h0]; rfl
/-- A text's byte, by its index. -/
theorem hd_at {c : Cfg} {t : ByteArray} {q n : Nat} (ht : t = c.text.extract q (q + n)) (hq : q + n ≤ c.len) (i : Nat) (hi : i < n) (h : i < t.size) : t[i].toNat = c.byte (q + i) := by
  subst ht
  exact piece_at c.text q (q + n) i (by omega) hq h
theorem hd_size {c : Cfg} {q n : Nat} (hq : q + n ≤ c.len) : (c.text.extract q (q + n)).size = n := extract_len _ _ _ hq
end Go.Proofs.YthigfpaajbejdaaGreatDoor
namespace Go.Proofs.YthigfpaajbejdaaGreatDoor
open Go.RowKit

/-- What begin gives, where Open must tell R. -/
def BeginPost (q : Bool) (tv B db rb bs hb : Nat) (k0 k1 k2 : Value) (c : Cfg) (R : OpenRes) (S : List Nat) (w : World) (ev : Ending) (w' : World) : Prop :=
  ∃ (p : Nat) (S1 : List Nat) (i : Nat → Int) (sm : ByteArray) (fr at_ : Int), MovT q B rb bs c [db] w S p w' S1 ∧ DecF tv w' db rb hb k0 k1 k2 i sm fr at_ ∧
  ((∃ e a : Nat, R = .bad e a ∧ e ≠ 0 ∧ e < 17 ∧ ev = .returned (.iface (errT e) (.int .i64 (errN e))) ∧ fr = -1 ∧ at_ = a) ∨
   (∃ a : Nat, R = .good a ∧ ev = .returned .nilIface ∧ fr = 0 ∧ at_ = a ∧ i = c.infI ∧ sm = c.text.extract 26 42))

/-- The loop over the blocks: where it stands. -/
def BRun (q : Bool) (tv B db rb bs hb : Nat) (k0 k1 k2 : Value) (c : Cfg) (R : OpenRes) (S : List Nat) (w wx : World) (g k : Nat) (last : Bool) : Prop :=
  ∃ (p : Nat) (S1 : List Nat) (i : Nat → Int) (sm : ByteArray) (at_ : Int), MovT q B rb bs c [db] w S p wx S1 ∧ DecF tv wx db rb hb k0 k1 k2 i sm (-1) at_ ∧
  ((∃ f j, g = f + 1 ∧ last = false ∧ R = c.openGo f k j ∧ c.lim.1 < j + f ∧ j ≤ c.lim.1 ∧ k ≤ j ∧ p = 8 * j ∧ (k = 0 → j = 4) ∧ (k ≠ 0 → i = c.infI ∧ sm = c.text.extract 26 42)) ∨
   (∃ j, g = 0 ∧ last = true ∧ R = .good j ∧ j ≤ c.lim.1 ∧ k ≤ 1048577 ∧ p = 8 * j ∧ i = c.infI ∧ sm = c.text.extract 26 42))
/-- A block is done with: on to the next, or to the end. -/
theorem BRun.next {q : Bool} {tv B db rb bs hb : Nat} {k0 k1 k2 : Value} {c : Cfg} {R : OpenRes} {S S1 : List Nat} {w wx : World} {f k la j j' p : Nat} {at_ : Int} {i : Nat → Int} {sm : ByteArray}
    (hla : la < 2) (hR : R = if la = 1 then .good j' else c.openGo f (k + 1) j') (hf : c.lim.1 < j + (f + 1)) (hj : j < j') (hj' : j' ≤ c.lim.1) (hl : c.lim.1 ≤ 1048576) (hkj : k ≤ j)
    (hM : MovT q B rb bs c [db] w S p wx S1) (hp : p = 8 * j') (hi : i = c.infI) (hsm : sm = c.text.extract 26 42) (hd : DecF tv wx db rb hb k0 k1 k2 i sm (-1) at_) :
    ∃ g, g < f + 1 + 1 ∧ BRun q tv B db rb bs hb k0 k1 k2 c R S w wx g (k + 1) (decide (la = 1)) := by
  by_cases h1 : la = 1
  · rw [if_pos h1] at hR
    exact ⟨0, by omega, p, S1, i, sm, at_, hM, hd, .inr ⟨j', rfl, decide_eq_true h1, hR, hj', by omega, hp, hi, hsm⟩⟩
  · rw [if_neg h1] at hR
    exact ⟨f + 1, by omega, p, S1, i, sm, at_, hM, hd, .inl ⟨f, j', rfl, decide_eq_false h1, hR, by omega, hj', by omega, hp, fun h => by omega, fun _ => ⟨hi, hsm⟩⟩⟩
section
variable {q : Bool} {tv B db rb bs hb : Nat} {k0 k1 k2 : Value} {c : Cfg} {S S1 S2 T T' : List Nat} {w w0 w1 w' : World} {p p' j n : Nat} {fr at_ : Int} {e : Ending}
theorem MovT.comp (h : MovT q B rb bs c T w0 S p w S1) (h2 : MovT q B rb bs c T' w S1 p' w1 S2) (hT : ∀ x ∈ T', x ∈ T) : MovT q B rb bs c T w0 S p' w1 S2 :=
  ⟨h2.rd, fun x hx => by
    rcases h2.new x hx with h1 | h1
    · exact h.new x h1
    · exact .inr (Nat.le_trans h.fr.size h1), h.fr.trans h2.fr (fun x hx => by
    rcases List.mem_append.1 hx with h1 | h1
    · exact .inl (List.mem_append_left _ (hT x h1))
    · exact (h.new x h1).imp_left (fun h => List.mem_append_right _ h))⟩
theorem DecF.drewN {i : Nat → Int} {sm : ByteArray} (h : DecF tv w db rb hb k0 k1 k2 i sm fr at_) (m : Nat) : DecF tv (w.drewN m) db rb hb k0 k1 k2 i sm fr at_ := h.blk.drewN m
theorem StreamPost.short (h : StreamPost q tv B db rb bs hb k0 k1 k2 fr at_ c S w e w') (hL : c.lim.1 < 42) : e = .returned (.iface (errT (wantE c.lim.2)) (.int .i64 (errN (wantE c.lim.2)))) ∧ ∃ p S1 i sm, MovT q B rb bs c [db] w S p w' S1 ∧ DecF tv w' db rb hb k0 k1 k2 i sm fr at_ := by
  obtain ⟨p, S1, i, sm, h1, h2, ⟨_, h3⟩ | ⟨h3, _⟩ | ⟨h3, _⟩⟩ := h
  · exact ⟨h3, p, S1, i, sm, h1, h2⟩
  · omega
  · omega
theorem StreamPost.bad (h : StreamPost q tv B db rb bs hb k0 k1 k2 fr at_ c S w e w') (hL : 42 ≤ c.lim.1) (hbd : c.infoBad = true) : e = .returned (.iface 138 (.int .i64 4)) ∧ ∃ p S1 i sm, MovT q B rb bs c [db] w S p w' S1 ∧ DecF tv w' db rb hb k0 k1 k2 i sm fr at_ := by
  obtain ⟨p, S1, i, sm, h1, h2, ⟨h3, _⟩ | ⟨_, _, h3⟩ | ⟨_, h3, _⟩⟩ := h
  · omega
  · exact ⟨h3, p, S1, i, sm, h1, h2⟩
  · rw [hbd] at h3; cases h3
theorem StreamPost.good (h : StreamPost q tv B db rb bs hb k0 k1 k2 fr at_ c S w e w') (hL : 42 ≤ c.lim.1) (hbd : c.infoBad = false) : e = .returned .nilIface ∧ ∃ S1, MovT q B rb bs c [db] w S (8 * 42) w' S1 ∧ DecF tv w' db rb hb k0 k1 k2 c.infI (c.text.extract 26 42) fr at_ := by
  obtain ⟨p, S1, i, sm, h1, h2, ⟨h3, _⟩ | ⟨_, h3, _⟩ | ⟨_, _, h3, rfl, rfl, rfl⟩⟩ := h
  · omega
  · rw [hbd] at h3; cases h3
  · exact ⟨h3, S1, h1, h2⟩
theorem BlockPost.short (h : BlockPost q B rb bs c S j n w e w') (hL : c.lim.1 < j + n) : e = .returned (.iface (errT (wantE c.lim.2)) (.int .i64 (errN (wantE c.lim.2)))) ∧ ∃ p S1, MovT q B rb bs c [] w S p w' S1 := by
  obtain ⟨p, S1, h1, ⟨_, h2⟩ | ⟨h2, _⟩⟩ := h
  · exact ⟨h2, p, S1, h1⟩
  · omega
theorem BlockPost.ok (h : BlockPost q B rb bs c S j n w e w') (hL : j + n ≤ c.lim.1) : e = .returned .nilIface ∧ ∃ S1, MovT q B rb bs c [] w S (8 * (j + n)) w' S1 := by
  obtain ⟨p, S1, h1, ⟨h2, _⟩ | ⟨_, h2, rfl⟩⟩ := h
  · omega
  · exact ⟨h2, S1, h1⟩
end
set_option maxRecDepth 100000 in
set_option maxHeartbeats 2000000 in
theorem begin_short_s {B : Nat} {w : World} {db rb bs hb : Nat} {k0 k1 k2 : Value} {c : Cfg} {S : List Nat} (hk : LimOk c) (hd : DecF 230 w db rb hb k0 k1 k2 (fun _ => 0) ⟨#[]⟩ (-1) 0) (h : RdS false B w rb bs c 0 S) (hdb : db ∉ S) (hB : B ≤ db) (hL : c.lim.1 < 4) :
    Calls Tryz.prog 80 #[.pointer (some ⟨db, 0, none⟩)] w (BeginPost false 230 B db rb bs hb k0 k1 k2 c (.bad (wantE c.lim.2) 0) S w) := by
  have hwe := wantE_ne hk.stop
  obtain ⟨hh, hlf⟩ := errV_leaf hwe.1
  have hln := hlf.nnil
  have hcall := Hid.mk2 (bytes_not_s (j := 0) (n := 4) hk hd h rfl hdb (by decide) (Nat.zero_le _) (by omega) (z := 4) rfl)
  have hM0 := MovT.start h [db]
  have hwe' := Hid.mk2 hwe
  unfold BeginPost
  generalize hge : wantE c.lim.2 = E at *
  have hx : Hid (errT E = errT E ∧ errN E = errN E) := ⟨rfl, rfl⟩
  clear hlf hwe hL
  go_enter Tryz.func80, Tryz.ntmps80
  go_wp2_with (go_at_call 112; (with_reducible refine (hcall.out).mono ?_); rintro e w1 ⟨rfl, p1, hm1⟩)
  go_ret
  obtain ⟨S2, hM2⟩ := hM0.step hm1
  exact ⟨p1, S2, (fun _ => 0), ⟨#[]⟩, -1, 0, hM2, hm1.1.blk hd.blk hdb, .inl ⟨E, 0, rfl, hwe'.out.1, hwe'.out.2.2, rfl, rfl, rfl⟩⟩
set_option maxRecDepth 100000 in
set_option maxHeartbeats 2000000 in
theorem begin_mark_s {B : Nat} {w : World} {db rb bs hb : Nat} {k0 k1 k2 : Value} {c : Cfg} {S : List Nat} (hk : LimOk c) (hd : DecF 230 w db rb hb k0 k1 k2 (fun _ => 0) ⟨#[]⟩ (-1) 0) (h : RdS false B w rb bs c 0 S) (hdb : db ∉ S) (hB : B ≤ db) (hL : 4 ≤ c.lim.1) (hmk : c.markText ≠ [102, 76, 97, 67]) :
    Calls Tryz.prog 80 #[.pointer (some ⟨db, 0, none⟩)] w (BeginPost false 230 B db rb bs hb k0 k1 k2 c (.bad 2 0) S w) := by
  have hcall := Hid.mk2 (bytes_ok_s (j := 0) (n := 4) hk hd h rfl hdb (by decide) (by omega) (z := 4) rfl)
  have hM0 := MovT.start h [db]
  obtain ⟨t, ht⟩ : ∃ t, t = c.text.extract 0 4 := ⟨_, rfl⟩
  simp only [Nat.reduceAdd, Nat.reduceMul, Nat.zero_add, ← ht] at hcall
  unfold Cfg.markText at hmk
  rw [← ht] at hmk
  have hmt := mark_no hmk
  unfold BeginPost
  clear ht hmk hL
  go_enter Tryz.func80, Tryz.ntmps80
  go_wp2_with (go_at_call 112; (with_reducible refine (hcall.out).mono ?_); rintro e w1 ⟨rfl, hm1⟩)
  go_ret
  obtain ⟨S2, hM2⟩ := hM0.step hm1
  exact ⟨_, S2, (fun _ => 0), ⟨#[]⟩, -1, 0, hM2, hm1.1.blk hd.blk hdb, .inl ⟨2, 0, rfl, by decide, by decide, rfl, rfl, rfl⟩⟩

set_option maxRecDepth 100000 in
set_option maxHeartbeats 2000000 in
theorem begin_short_q {B : Nat} {w : World} {db rb bs hb : Nat} {k0 k1 k2 : Value} {c : Cfg} {S : List Nat} (hk : LimOk c) (hd : DecF 233 w db rb hb k0 k1 k2 (fun _ => 0) ⟨#[]⟩ (-1) 0) (h : RdS true B w rb bs c 0 S) (hdb : db ∉ S) (hB : B ≤ db) (hL : c.lim.1 < 4) :
    Calls Tryz.prog 80 #[.pointer (some ⟨db, 0, none⟩)] w (BeginPost true 233 B db rb bs hb k0 k1 k2 c (.bad (wantE c.lim.2) 0) S w) := by
  have hwe := wantE_ne hk.stop
  obtain ⟨hh, hlf⟩ := errV_leaf hwe.1
  have hln := hlf.nnil
  have hcall := Hid.mk2 (bytes_not_q (j := 0) (n := 4) hk hd h rfl hdb (by decide) (Nat.zero_le _) (by omega) (z := 4) rfl)
  have hM0 := MovT.start h [db]
  have hwe' := Hid.mk2 hwe
  unfold BeginPost
  generalize hge : wantE c.lim.2 = E at *
  have hx : Hid (errT E = errT E ∧ errN E = errN E) := ⟨rfl, rfl⟩
  clear hlf hwe hL
  go_enter Tryz.func80, Tryz.ntmps80
  go_wp2_with (go_at_call 112; (with_reducible refine (hcall.out).mono ?_); rintro e w1 ⟨rfl, p1, hm1⟩)
  go_ret
  obtain ⟨S2, hM2⟩ := hM0.step hm1
  exact ⟨p1, S2, (fun _ => 0), ⟨#[]⟩, -1, 0, hM2, hm1.1.blk hd.blk hdb, .inl ⟨E, 0, rfl, hwe'.out.1, hwe'.out.2.2, rfl, rfl, rfl⟩⟩
set_option maxRecDepth 100000 in
set_option maxHeartbeats 2000000 in
theorem begin_mark_q {B : Nat} {w : World} {db rb bs hb : Nat} {k0 k1 k2 : Value} {c : Cfg} {S : List Nat} (hk : LimOk c) (hd : DecF 233 w db rb hb k0 k1 k2 (fun _ => 0) ⟨#[]⟩ (-1) 0) (h : RdS true B w rb bs c 0 S) (hdb : db ∉ S) (hB : B ≤ db) (hL : 4 ≤ c.lim.1) (hmk : c.markText ≠ [102, 76, 97, 67]) :
    Calls Tryz.prog 80 #[.pointer (some ⟨db, 0, none⟩)] w (BeginPost true 233 B db rb bs hb k0 k1 k2 c (.bad 2 0) S w) := by
  have hcall := Hid.mk2 (bytes_ok_q (j := 0) (n := 4) hk hd h rfl hdb (by decide) (by omega) (z := 4) rfl)
  have hM0 := MovT.start h [db]
  obtain ⟨t, ht⟩ : ∃ t, t = c.text.extract 0 4 := ⟨_, rfl⟩
  simp only [Nat.reduceAdd, Nat.reduceMul, Nat.zero_add, ← ht] at hcall
  unfold Cfg.markText at hmk
  rw [← ht] at hmk
  have hmt := mark_no hmk
  unfold BeginPost
  clear ht hmk hL
  go_enter Tryz.func80, Tryz.ntmps80
  go_wp2_with (go_at_call 112; (with_reducible refine (hcall.out).mono ?_); rintro e w1 ⟨rfl, hm1⟩)
  go_ret
  obtain ⟨S2, hM2⟩ := hM0.step hm1
  exact ⟨_, S2, (fun _ => 0), ⟨#[]⟩, -1, 0, hM2, hm1.1.blk hd.blk hdb, .inl ⟨2, 0, rfl, by decide, by decide, rfl, rfl, rfl⟩⟩

end Go.Proofs.YthigfpaajbejdaaGreatDoor
