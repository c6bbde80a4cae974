/-
  flacpairlaw.Opens, walked: it answers true.
-/
import Derived.Test.YthigfpaajbejdaaGreatDoorOpenStand
namespace Go.Proofs.YthigfpaajbejdaaGreatDoor
open Go.RowKit

section
variable {tv B : Nat} {c : Cfg} {w w' : World} {ev : Ending} {e a : Nat}
theorem POpenPost.isBad (h : POpenPost tv B c w ev w') (hR : c.openAll = .bad e a) : ev = .returned (.tuple #[.pointer none, .agg #[.int .i64 e, .int .i64 (-1), .int .i64 a]]) ∧ Fr [] w w' := by
  rcases h with ⟨e1, a1, h1, h2, h3⟩ | ⟨a1, _, _, _, _, _, _, _, _, h1, _⟩
  · rw [hR] at h1
    injection h1 with h5 h6
    subst h5
    subst h6
    exact ⟨h2, h3⟩
  · rw [hR] at h1; cases h1
theorem POpenPost.isGood (h : POpenPost tv B c w ev w') (hR : c.openAll = .good a) : ∃ (pb db rb bs hb : Nat) (k0 k1 k2 : Value), ev = .returned (.tuple #[.pointer (some ⟨pb, 0, none⟩), .agg #[.int .i64 0, .int .i64 0, .int .i64 0]]) ∧
    Blk w' pb #[.iface 176 (.pointer (some ⟨db, 0, none⟩)), .pointer (some ⟨bs, 0, none⟩)] 107 ∧ (∃ pos left k, SrcI B w' bs c pos left k) ∧ DecF tv w' db rb hb k0 k1 k2 c.infI (c.text.extract 26 42) 0 a ∧ Fr [] w w' := by
  rcases h with ⟨e1, a1, h1, _⟩ | ⟨a1, pb, db, rb, bs, hb, k0, k1, k2, h1, h2, h3, h4, h5, h6, h7⟩
  · rw [hR] at h1; cases h1
  · rw [hR] at h1
    injection h1 with h8
    subst h8
    exact ⟨pb, db, rb, bs, hb, k0, k1, k2, h2, h3, h4, h5, h6⟩
theorem ROpen.isBad (h : ROpen c c.openAll w ev w') (hR : c.openAll = .bad e a) : ev = .returned (.tuple #[.pointer none, .agg #[.int .i64 e, .int .i64 (-1), .int .i64 a]]) ∧ Fr [] w w' := by
  rcases h with ⟨e1, a1, h1, h2, h3⟩ | ⟨a1, _, _, h1, _⟩
  · rw [hR] at h1
    injection h1 with h5 h6
    subst h5
    subst h6
    exact ⟨h2, h3⟩
  · rw [hR] at h1; cases h1
theorem ROpen.isGood (h : ROpen c c.openAll w ev w') (hR : c.openAll = .good a) : ∃ db sb, ev = .returned (.tuple #[.pointer (some ⟨db, 0, none⟩), .agg #[.int .i64 0, .int .i64 0, .int .i64 0]]) ∧ DecR w' db sb c.infI (c.text.extract 26 42) a ∧ Fr [] w w' := by
  rcases h with ⟨e1, a1, h1, _⟩ | ⟨a1, db, sb, h1, h2, h3, h4, _⟩
  · rw [hR] at h1; cases h1
  · rw [hR] at h1
    injection h1 with h8
    subst h8
    exact ⟨db, sb, h2, h3, h4⟩
end

theorem opens_big (s : ByteArray) (a1 : Option Addr) (l1 c1 : Nat) (br kind : Int) (w : World) (hbig : ¬ (s.size ≤ 1048576 ∧ l1 ≤ 1048576)) :
    Calls Tryz.prog 5 #[.string s, .slice a1 l1 c1, .int .i64 br, .int .i64 kind] w fun e w' => e = .returned (.bool true) ∧ Fr [] w w' := by
  have hcall := openSmall_any s a1 l1 c1 w
  rw [decide_eq_false hbig] at hcall
  clear hbig
  go_enter Tryz.func5, Tryz.ntmps5
  go_wp2_with (go_at_call 16; refine hcall.mono ?_; rintro e w1 ⟨rfl, rfl⟩)
  go_ret
  exact ⟨rfl, Fr.refl _ _⟩
set_option maxRecDepth 100000 in
set_option maxHeartbeats 1000000 in
theorem opens_no (s : ByteArray) (a1 : Option Addr) (l1 c1 : Nat) (br kind : Int) (w : World) (hg : Gl w) (h0 : kind ≠ 0) (h1 : kind ≠ 1) (hfit : s.size ≤ 1048576 ∧ l1 ≤ 1048576) :
    Calls Tryz.prog 5 #[.string s, .slice a1 l1 c1, .int .i64 br, .int .i64 kind] w fun e w' => e = .returned (.bool true) ∧ Fr [] w w' := by
  have hcall := openSmall_any s a1 l1 c1 w
  rw [decide_eq_true hfit] at hcall
  have hpo := Hid.mk2 (pOpen_no (ct := s) (a := a1) (cl := l1) (cap := c1) (cb := br) kind h0 h1 w hg)
  have hro := fun W => Hid.mk2 (rOpen_no s a1 l1 c1 br kind h0 h1 W)
  have hsa := fun W => Hid.mk2 (same_any 15 (-1) 0 W)
  clear hfit h0 h1
  go_enter Tryz.func5, Tryz.ntmps5
  go_wp2_with (first
    | (go_at_call 16; refine hcall.mono ?_; rintro e w1 ⟨rfl, rfl⟩)
    | (go_at_call 17; (with_reducible refine (hpo.out).mono ?_); rintro e w2 ⟨rfl, hf2⟩; have hf3 := hf2.alloc' (.cells #[.int .i64 15, .int .i64 (-1), .int .i64 0] 23); have hb3 := Blk.new w2 #[.int .i64 15, .int .i64 (-1), .int .i64 0] 23)
    | (go_at_call 18; (with_reducible refine ((hro _).out).mono ?_); rintro e w4 ⟨rfl, hf4⟩; have hb5 := (hf4.blk hb3 (by simp)).alloc (.cells #[.int .i64 15, .int .i64 (-1), .int .i64 0] 46); have hc5 := hb5.cell; have hc6 := (Blk.new w4 #[.int .i64 15, .int .i64 (-1), .int .i64 0] 46).cell)
    | (go_at_call 19; (with_reducible refine ((hsa _).out).mono ?_); rintro e w7 ⟨rfl, hf7⟩))
  go_ret
  exact ⟨rfl, ((hf3.same hf4).alloc' _).same hf7⟩
set_option maxRecDepth 100000 in
set_option maxHeartbeats 2000000 in
theorem opens_s {w : World} {c : Cfg} {a1 : Option Addr} {c1 : Nat} (hg : Gl w) (hP : Pcs w.heap.size w a1 c.ps) (hfit : c.text.size ≤ 1048576 ∧ c.ps.length ≤ 1048576) (hbb : -9223372036854775808 ≤ c.broken ∧ c.broken ≤ 9223372036854775807) :
    Calls Tryz.prog 5 #[.string c.text, .slice a1 c.ps.length c1, .int .i64 c.broken, .int .i64 0] w fun e w' => e = .returned (.bool true) ∧ Fr [] w w' := by
  have hcall := openSmall_any c.text a1 c.ps.length c1 w
  rw [decide_eq_true hfit] at hcall
  have hlen : c.len ≤ 1048576 := hfit.1
  have hk := limOk_of hlen
  have hpo := Hid.mk2 (pOpen_s (cap := c1) hg hP (Nat.le_refl _) hlen hbb)
  have hro := fun W (hW : Fr [] w W) => Hid.mk2 (rOpen_all0 (cap := c1) hk (hP.keep hW (by simp)))
  clear hk hlen hfit hbb hP hg
  obtain ⟨B, hB⟩ : ∃ B, B = w.heap.size := ⟨_, rfl⟩
  rw [← hB] at hpo
  clear hB
  obtain ⟨cl, hcl⟩ : ∃ cl, cl = c.ps.length := ⟨_, rfl⟩
  obtain ⟨ct, hct⟩ : ∃ ct, ct = c.text := ⟨_, rfl⟩
  obtain ⟨cb, hcb⟩ : ∃ cb, cb = c.broken := ⟨_, rfl⟩
  rw [← hcl, ← hct, ← hcb] at hpo ⊢
  rw [← hcl, ← hct] at hcall
  have hro2 : ∀ W (hW : Fr [] w W), Hid (Calls Tryz.prog 18 #[.string ct, .slice a1 cl c1, .int .i64 cb, .int .i64 0] W (ROpen c c.openAll W)) := by
    intro W hW
    have := hro W hW
    rw [← hcl, ← hct, ← hcb] at this
    exact this
  clear hro hcl hct hcb
  cases hR : c.openAll with
  | bad e0 a0 =>
    have hR' := Hid.mk2 hR
    have hsa := fun W => Hid.mk2 (same_any e0 (-1) a0 W)
    clear hR
    go_enter Tryz.func5, Tryz.ntmps5
    go_wp2_with (first
      | (go_at_call 16; refine hcall.mono ?_; rintro e w1 ⟨rfl, rfl⟩)
      | (go_at_call 17; (with_reducible refine (hpo.out).mono ?_); rintro e w2 hs2; obtain ⟨rfl, hf2⟩ := hs2.isBad hR'.out; have hf3 := hf2.alloc' (.cells #[.int .i64 e0, .int .i64 (-1), .int .i64 a0] 23); have hb3 := Blk.new w2 #[.int .i64 e0, .int .i64 (-1), .int .i64 a0] 23)
      | (go_at_call 18; (with_reducible refine ((hro2 _ hf3).out).mono ?_); rintro e w4 hs4; obtain ⟨rfl, hf4⟩ := hs4.isBad hR'.out; have hb5 := (hf4.blk hb3 (by simp)).alloc (.cells #[.int .i64 e0, .int .i64 (-1), .int .i64 a0] 46); have hc5 := hb5.cell; have hc6 := (Blk.new w4 #[.int .i64 e0, .int .i64 (-1), .int .i64 a0] 46).cell)
      | (go_at_call 19; (with_reducible refine ((hsa _).out).mono ?_); rintro e w7 ⟨rfl, hf7⟩))
    go_ret
    exact ⟨rfl, ((hf3.same hf4).alloc' _).same hf7⟩
  | good a0 =>
    have hR' := Hid.mk2 hR
    have hsa := fun W => Hid.mk2 (same_any 0 0 0 W)
    clear hR
    go_enter Tryz.func5, Tryz.ntmps5
    go_wp2_with (first
      | (go_at_call 16; refine hcall.mono ?_; rintro e w1 ⟨rfl, rfl⟩)
      | (go_at_call 17; (with_reducible refine (hpo.out).mono ?_); rintro e w2 hs2; obtain ⟨pb, db, rb, bs, hb, k0, k1, k2, rfl, hp2, ⟨pos, left, kk, hs2⟩, hd2, hf2⟩ := hs2.isGood hR'.out; have hf3 := hf2.alloc' (.cells #[.int .i64 0, .int .i64 0, .int .i64 0] 23); have hb3 := Blk.new w2 #[.int .i64 0, .int .i64 0, .int .i64 0] 23)
      | (go_at_call 18; (with_reducible refine ((hro2 _ hf3).out).mono ?_); rintro e w4 hs4; obtain ⟨mb, sb, rfl, hm4, hf4⟩ := hs4.isGood hR'.out; have hb5 := (hf4.blk hb3 (by simp)).alloc (.cells #[.int .i64 0, .int .i64 0, .int .i64 0] 46); have hc5 := hb5.cell; have hc6 := (Blk.new w4 #[.int .i64 0, .int .i64 0, .int .i64 0] 46).cell)
      | (go_at_call 19; (with_reducible refine ((hsa _).out).mono ?_); rintro e w7 ⟨rfl, hf7⟩)
      | (go_at_call 20;
         have hfa := (((Fr.alloc [] w2 (.cells #[.int .i64 0, .int .i64 0, .int .i64 0] 23)).same hf4).alloc' (.cells #[.int .i64 0, .int .i64 0, .int .i64 0] 46)).same hf7;
         have hfb := (Fr.alloc [] w4 (.cells #[.int .i64 0, .int .i64 0, .int .i64 0] 46)).same hf7;
         have hst := stands_any (hfa.blk hp2 (by simp)) (hs2.keep hfa (by simp) (by simp)) (hfa.blk hd2.blk (by simp)) (hfb.blk hm4.blk (by simp));
         (with_reducible refine (hst).mono ?_); rintro e w8 ⟨rfl, hf8⟩))
    go_ret
    exact ⟨rfl, (hf2.same hfa).same hf8⟩

set_option maxRecDepth 100000 in
set_option maxHeartbeats 2000000 in
theorem opens_q {w : World} {c : Cfg} {a1 : Option Addr} {c1 : Nat} (hg : Gl w) (hP : Pcs w.heap.size w a1 c.ps) (hfit : c.text.size ≤ 1048576 ∧ c.ps.length ≤ 1048576) (hbb : -9223372036854775808 ≤ c.broken ∧ c.broken ≤ 9223372036854775807) :
    Calls Tryz.prog 5 #[.string c.text, .slice a1 c.ps.length c1, .int .i64 c.broken, .int .i64 1] w fun e w' => e = .returned (.bool true) ∧ Fr [] w w' := by
  have hcall := openSmall_any c.text a1 c.ps.length c1 w
  rw [decide_eq_true hfit] at hcall
  have hlen : c.len ≤ 1048576 := hfit.1
  have hk := limOk_of hlen
  have hpo := Hid.mk2 (pOpen_q (cap := c1) hg hP (Nat.le_refl _) hlen hbb)
  have hro := fun W (hW : Fr [] w W) => Hid.mk2 (rOpen_all1 (cap := c1) hk (hP.keep hW (by simp)))
  clear hk hlen hfit hbb hP hg
  obtain ⟨B, hB⟩ : ∃ B, B = w.heap.size := ⟨_, rfl⟩
  rw [← hB] at hpo
  clear hB
  obtain ⟨cl, hcl⟩ : ∃ cl, cl = c.ps.length := ⟨_, rfl⟩
  obtain ⟨ct, hct⟩ : ∃ ct, ct = c.text := ⟨_, rfl⟩
  obtain ⟨cb, hcb⟩ : ∃ cb, cb = c.broken := ⟨_, rfl⟩
  rw [← hcl, ← hct, ← hcb] at hpo ⊢
  rw [← hcl, ← hct] at hcall
  have hro2 : ∀ W (hW : Fr [] w W), Hid (Calls Tryz.prog 18 #[.string ct, .slice a1 cl c1, .int .i64 cb, .int .i64 1] W (ROpen c c.openAll W)) := by
    intro W hW
    have := hro W hW
    rw [← hcl, ← hct, ← hcb] at this
    exact this
  clear hro hcl hct hcb
  cases hR : c.openAll with
  | bad e0 a0 =>
    have hR' := Hid.mk2 hR
    have hsa := fun W => Hid.mk2 (same_any e0 (-1) a0 W)
    clear hR
    go_enter Tryz.func5, Tryz.ntmps5
    go_wp2_with (first
      | (go_at_call 16; refine hcall.mono ?_; rintro e w1 ⟨rfl, rfl⟩)
      | (go_at_call 17; (with_reducible refine (hpo.out).mono ?_); rintro e w2 hs2; obtain ⟨rfl, hf2⟩ := hs2.isBad hR'.out; have hf3 := hf2.alloc' (.cells #[.int .i64 e0, .int .i64 (-1), .int .i64 a0] 23); have hb3 := Blk.new w2 #[.int .i64 e0, .int .i64 (-1), .int .i64 a0] 23)
      | (go_at_call 18; (with_reducible refine ((hro2 _ hf3).out).mono ?_); rintro e w4 hs4; obtain ⟨rfl, hf4⟩ := hs4.isBad hR'.out; have hb5 := (hf4.blk hb3 (by simp)).alloc (.cells #[.int .i64 e0, .int .i64 (-1), .int .i64 a0] 46); have hc5 := hb5.cell; have hc6 := (Blk.new w4 #[.int .i64 e0, .int .i64 (-1), .int .i64 a0] 46).cell)
      | (go_at_call 19; (with_reducible refine ((hsa _).out).mono ?_); rintro e w7 ⟨rfl, hf7⟩))
    go_ret
    exact ⟨rfl, ((hf3.same hf4).alloc' _).same hf7⟩
  | good a0 =>
    have hR' := Hid.mk2 hR
    have hsa := fun W => Hid.mk2 (same_any 0 0 0 W)
    clear hR
    go_enter Tryz.func5, Tryz.ntmps5
    go_wp2_with (first
      | (go_at_call 16; refine hcall.mono ?_; rintro e w1 ⟨rfl, rfl⟩)
      | (go_at_call 17; (with_reducible refine (hpo.out).mono ?_); rintro e w2 hs2; obtain ⟨pb, db, rb, bs, hb, k0, k1, k2, rfl, hp2, ⟨pos, left, kk, hs2⟩, hd2, hf2⟩ := hs2.isGood hR'.out; have hf3 := hf2.alloc' (.cells #[.int .i64 0, .int .i64 0, .int .i64 0] 23); have hb3 := Blk.new w2 #[.int .i64 0, .int .i64 0, .int .i64 0] 23)
      | (go_at_call 18; (with_reducible refine ((hro2 _ hf3).out).mono ?_); rintro e w4 hs4; obtain ⟨mb, sb, rfl, hm4, hf4⟩ := hs4.isGood hR'.out; have hb5 := (hf4.blk hb3 (by simp)).alloc (.cells #[.int .i64 0, .int .i64 0, .int .i64 0] 46); have hc5 := hb5.cell; have hc6 := (Blk.new w4 #[.int .i64 0, .int .i64 0, .int .i64 0] 46).cell)
      | (go_at_call 19; (with_reducible refine ((hsa _).out).mono ?_); rintro e w7 ⟨rfl, hf7⟩)
      | (go_at_call 20;
         have hfa := (((Fr.alloc [] w2 (.cells #[.int .i64 0, .int .i64 0, .int .i64 0] 23)).same hf4).alloc' (.cells #[.int .i64 0, .int .i64 0, .int .i64 0] 46)).same hf7;
         have hfb := (Fr.alloc [] w4 (.cells #[.int .i64 0, .int .i64 0, .int .i64 0] 46)).same hf7;
         have hst := stands_any (hfa.blk hp2 (by simp)) (hs2.keep hfa (by simp) (by simp)) (hfa.blk hd2.blk (by simp)) (hfb.blk hm4.blk (by simp));
         (with_reducible refine (hst).mono ?_); rintro e w8 ⟨rfl, hf8⟩))
    go_ret
    exact ⟨rfl, (hf2.same hfa).same hf8⟩

/-- flacpairlaw.Opens, of any text, pieces, breaks and kind. -/
theorem opens_any {w : World} (hg : Gl w) (s : ByteArray) {a1 : Option Addr} {l1 c1 : Nat} (zs : List Int) (hlen : zs.length = l1)
    (hc : ∀ i, i < l1 → ∃ b off, a1 = some ⟨b, off, none⟩ ∧ b < w.heap.size ∧ w.cell? ⟨b, off + i, none⟩ = some (.int .i64 (zs.getD i 0)))
    (hfit : ∀ i, i < l1 → -9223372036854775808 ≤ zs.getD i 0 ∧ zs.getD i 0 ≤ 9223372036854775807)
    (br : Int) (hbb : -9223372036854775808 ≤ br ∧ br ≤ 9223372036854775807) (kind : Int) :
    Calls Tryz.prog 5 #[.string s, .slice a1 l1 c1, .int .i64 br, .int .i64 kind] w fun e w' => e = .returned (.bool true) ∧ Fr [] w w' := by
  by_cases h : s.size ≤ 1048576 ∧ l1 ≤ 1048576
  · subst hlen
    have hP : Pcs w.heap.size w a1 zs := ⟨h.2, hc, hfit⟩
    by_cases h0 : kind = 0
    · subst h0
      exact opens_s (c := ⟨s, zs, br⟩) hg hP h hbb
    · by_cases h1 : kind = 1
      · subst h1
        exact opens_q (c := ⟨s, zs, br⟩) hg hP h hbb
      · exact opens_no s a1 _ c1 br kind w hg h0 h1 h
  · exact opens_big s a1 l1 c1 br kind w h
end Go.Proofs.YthigfpaajbejdaaGreatDoor
