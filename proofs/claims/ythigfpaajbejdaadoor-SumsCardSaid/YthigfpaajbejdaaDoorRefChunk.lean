/-
  flacpairref.chunk, walked.
-/
import Derived.Test.YthigfpaajbejdaaDoorRefMd
namespace Go.Proofs.YthigfpaajbejdaaDoor
open Go.RowKit

set_option maxRecDepth 100000 in
set_option maxHeartbeats 1000000 in
theorem chunk_any {w : World} {hb ab sb off cap : Nat} {st : Md.St} {l : Nat → Nat} {o : Nat} (hok : st.ok) (hl : ∀ i, l i < 256)
    (hh : ∀ i, i < 4 → w.cell? ⟨hb, i, none⟩ = (#[Value.int .i64 st.a, .int .i64 st.b, .int .i64 st.c, .int .i64 st.d] : Array Value)[i]?)
    (ha : ∀ i, i < 64 → w.cell? ⟨ab, i, none⟩ = some (.int .i64 (Md.sines.getD i 0 : Nat)))
    (hs : ∀ i, i < 64 → w.cell? ⟨sb, off + i, none⟩ = some (.int .u8 (l (o + i)))) :
    Calls Tryd.prog 16 #[.slice (some ⟨hb, 0, none⟩) 4 4, .slice (some ⟨sb, off, none⟩) 64 cap, .slice (some ⟨ab, 0, none⟩) 64 64] w fun e w' =>
      ∃ nb, e = .returned (.slice (some ⟨nb, 0, none⟩) 4 4) ∧ (∀ i, i < 4 → w'.cell? ⟨nb, i, none⟩ = (#[Value.int .i64 (Md.block (Md.word l o) st).a, .int .i64 (Md.block (Md.word l o) st).b, .int .i64 (Md.block (Md.word l o) st).c, .int .i64 (Md.block (Md.word l o) st).d] : Array Value)[i]?) ∧ Fr [] w w' := by
  have ha' := Hid.mk' ha
  have hs' := Hid.mk' hs
  clear ha hs
  have c0 := hh 0 (by decide)
  have c1 := hh 1 (by decide)
  have c2 := hh 2 (by decide)
  have c3 := hh 3 (by decide)
  have hh' := Hid.mk' hh
  clear hh
  simp at c0 c1 c2 c3
  go_enter Tryd.func16, Tryd.ntmps16
  go_wp2_with fail
  clear c0 c1 c2 c3
  go_loopg [7, 8, 9, 10, 11] 64 (fun g s7 s8 s9 s10 s11 wx => ∃ k : Nat, g = 64 - k ∧ k ≤ 64 ∧ s7 = .int .i64 (Md.steps (Md.word l o) st k).a ∧ s8 = .int .i64 (Md.steps (Md.word l o) st k).b ∧ s9 = .int .i64 (Md.steps (Md.word l o) st k).c ∧ s10 = .int .i64 (Md.steps (Md.word l o) st k).d ∧ s11 = .int .i64 k ∧ Fr [] w wx)
  case atStart => exact ⟨0, rfl, by decide, rfl, rfl, rfl, rfl, rfl, Fr.refl _ _⟩
  case round =>
    obtain ⟨k, hgk, hk, rfl, rfl, rfl, rfl, rfl, hF⟩ := hrel
    have hG := Hid.mk' hgk
    clear hgk
    have hsk := Md.steps_ok (Md.word l o) hok k
    by_cases hlk : k < 64
    · have hlk' : (k : Int) < 64 := by omega
      have hnx : Hid (Md.steps (Md.word l o) st (k + 1) = Md.step (Md.word l o) k (Md.steps (Md.word l o) st k)) := rfl
      generalize Md.steps (Md.word l o) st k = sk at *
      obtain ⟨a, b, c, d⟩ := sk
      obtain ⟨hal, hb2, hc, hd⟩ := hsk
      simp only at hal hb2 hc hd
      have hmf := Md.mixF_lt (k := k) hb2 hc hd
      have hmg := Md.mixG_lt hlk
      obtain ⟨ht1, ht2⟩ := Md.turn_bounds hlk
      have hsl := Md.sines_lt k
      have hwl := Md.word_lt hl o (Md.mixG k)
      have hsn := hF.cell (ha'.out k hlk) (by simp)
      have hS : Hid (Md.step (Md.word l o) k ⟨a, b, c, d⟩ = ⟨d, (b + Md.rot ((Md.mixF k b c d + a + Md.sines.getD k 0 + Md.word l o (Md.mixG k)) % 4294967296) (Md.turn k)) % 4294967296, b, c⟩) := rfl
      have hsc := Hid.mk' (fun W => shift_any k hlk W)
      have a1 : ((k : Int)).tdiv 16 = (k : Int) / 16 := Int.tdiv_eq_ediv_of_nonneg (by omega)
      have k0 : (0 : Int) ≤ (k : Int) := by omega
      rcases (by omega : (k < 16) ∨ (16 ≤ k ∧ k < 32) ∨ (32 ≤ k ∧ k < 48) ∨ (48 ≤ k ∧ k < 64)) with hr | hr | hr | hr
      · have hq : ((k : Int) / 16 == 0) = true := by simp; omega
        obtain ⟨hm1, hm2⟩ := mixR_0 (k := k) hr hb2 hc hd
        have hwc := Hid.mk' (rword_int (cap := cap) (z := (k : Int)) (Md.mixG k) (by rw [hm2]) hmg hl (fun i hi => hF.cell (hs'.out i hi) (by simp)))
        clear hm2
        generalize Md.mixF k b c d = mf at *
        generalize Md.mixG k = mg at *
        generalize Md.sines.getD k 0 = sn at *
        generalize Md.word l o mg = wd at *
        generalize Md.turn k = tn at *
        obtain ⟨F, hFe⟩ : ∃ F, F = (mf + a + sn + wd) % 4294967296 := ⟨_, rfl⟩
        rw [← hFe] at hS
        have hFlt : F < 4294967296 := by rw [hFe]; exact Nat.mod_lt _ (by decide)
        have f1 : bits .and .i64 ((mf : Int) + (a : Int) + (sn : Int) + (wd : Int)) 4294967295 = (F : Int) := by
          rw [show ((mf : Int) + (a : Int) + (sn : Int) + (wd : Int)) = ((mf + a + sn + wd : Nat) : Int) by omega, i64_mask32 _ (by omega), hFe]
        clear hFe
        have f2 := rot_i64 F tn hFlt ht2
        have f3 : IntKind.i64.wrap ((F : Int) * 2 ^ tn) = (F : Int) * 2 ^ tn := by
          have h1 : F * 2 ^ tn ≤ 4294967296 * 2 ^ 23 := Nat.mul_le_mul (by omega) (Nat.pow_le_pow_right (by decide) ht2)
          have h2 : ((F : Int) * 2 ^ tn) = ((F * 2 ^ tn : Nat) : Int) := by simp
          rw [h2]; exact i64_small _ (by omega)
        have f4 : IntKind.i64.wrap (32 - (tn : Int)) = 32 - (tn : Int) := IntWalk.i64_in _ (by omega)
        have f5 : (32 - (tn : Int)).toNat = 32 - tn := by omega
        have f6 : (0 : Int) ≤ 32 - (tn : Int) := by omega
        have hrl := Md.rot_lt (n := tn) hFlt
        generalize Md.rot F tn = R at *
        obtain ⟨B, hBe⟩ : ∃ B, B = (b + R) % 4294967296 := ⟨_, rfl⟩
        rw [← hBe] at hS
        have f7 : bits .and .i64 ((b : Int) + (R : Int)) 4294967295 = (B : Int) := by
          rw [show ((b : Int) + (R : Int)) = ((b + R : Nat) : Int) by omega, i64_mask32 _ (by omega), hBe]
        clear hBe
        go_wp2_with (go_at_call 33; (with_reducible refine (hwc.out).mono ?_); rintro e w2 ⟨rfl, n2, rfl⟩)
        have hsn2 : (wr.drewN n2).cell? ⟨ab, k, none⟩ = some (.int .i64 sn) := by simpa using hsn
        have hF2 : Fr [] w (wr.drewN n2) := hF.drewN' n2
        generalize wr.drewN n2 = wq at *
        clear hsn hF
        go_wp2_with (go_at_call 34; (with_reducible refine (hsc.out _).mono ?_); rintro e w3 ⟨rfl, hF3⟩)
        go_quiet (fail)
        go_wp2_with fail
        go_roundg (64 - (k + 1))
        case measure => have := hG.out; omega
        case rel =>
          refine ⟨k + 1, rfl, by omega, ?_, ?_, ?_, ?_, rfl, (hF2.same hF3).drewN' _⟩ <;> rw [hnx.out, hS.out]
      · have hq : ((k : Int) / 16 == 0) = false := by simp; omega
        have hq1 : ((k : Int) / 16 == 1) = true := by simp; omega
        obtain ⟨hm1, hm2⟩ := mixR_1 (k := k) hr hb2 hc hd
        have hwc := Hid.mk' (rword_int (cap := cap) (z := (5 * (k : Int) + 1) % 16) (Md.mixG k) (by rw [hm2]; omega) hmg hl (fun i hi => hF.cell (hs'.out i hi) (by simp)))
        have a2 : (5 * (k : Int) + 1).tmod 16 = (5 * (k : Int) + 1) % 16 := Int.tmod_eq_emod_of_nonneg (by omega)
        clear hm2
        generalize Md.mixF k b c d = mf at *
        generalize Md.mixG k = mg at *
        generalize Md.sines.getD k 0 = sn at *
        generalize Md.word l o mg = wd at *
        generalize Md.turn k = tn at *
        obtain ⟨F, hFe⟩ : ∃ F, F = (mf + a + sn + wd) % 4294967296 := ⟨_, rfl⟩
        rw [← hFe] at hS
        have hFlt : F < 4294967296 := by rw [hFe]; exact Nat.mod_lt _ (by decide)
        have f1 : bits .and .i64 ((mf : Int) + (a : Int) + (sn : Int) + (wd : Int)) 4294967295 = (F : Int) := by
          rw [show ((mf : Int) + (a : Int) + (sn : Int) + (wd : Int)) = ((mf + a + sn + wd : Nat) : Int) by omega, i64_mask32 _ (by omega), hFe]
        clear hFe
        have f2 := rot_i64 F tn hFlt ht2
        have f3 : IntKind.i64.wrap ((F : Int) * 2 ^ tn) = (F : Int) * 2 ^ tn := by
          have h1 : F * 2 ^ tn ≤ 4294967296 * 2 ^ 23 := Nat.mul_le_mul (by omega) (Nat.pow_le_pow_right (by decide) ht2)
          have h2 : ((F : Int) * 2 ^ tn) = ((F * 2 ^ tn : Nat) : Int) := by simp
          rw [h2]; exact i64_small _ (by omega)
        have f4 : IntKind.i64.wrap (32 - (tn : Int)) = 32 - (tn : Int) := IntWalk.i64_in _ (by omega)
        have f5 : (32 - (tn : Int)).toNat = 32 - tn := by omega
        have f6 : (0 : Int) ≤ 32 - (tn : Int) := by omega
        have hrl := Md.rot_lt (n := tn) hFlt
        generalize Md.rot F tn = R at *
        obtain ⟨B, hBe⟩ : ∃ B, B = (b + R) % 4294967296 := ⟨_, rfl⟩
        rw [← hBe] at hS
        have f7 : bits .and .i64 ((b : Int) + (R : Int)) 4294967295 = (B : Int) := by
          rw [show ((b : Int) + (R : Int)) = ((b + R : Nat) : Int) by omega, i64_mask32 _ (by omega), hBe]
        clear hBe
        go_wp2_with (go_at_call 33; (with_reducible refine (hwc.out).mono ?_); rintro e w2 ⟨rfl, n2, rfl⟩)
        have hsn2 : (wr.drewN n2).cell? ⟨ab, k, none⟩ = some (.int .i64 sn) := by simpa using hsn
        have hF2 : Fr [] w (wr.drewN n2) := hF.drewN' n2
        generalize wr.drewN n2 = wq at *
        clear hsn hF
        go_wp2_with (go_at_call 34; (with_reducible refine (hsc.out _).mono ?_); rintro e w3 ⟨rfl, hF3⟩)
        go_quiet (fail)
        go_wp2_with fail
        go_roundg (64 - (k + 1))
        case measure => have := hG.out; omega
        case rel =>
          refine ⟨k + 1, rfl, by omega, ?_, ?_, ?_, ?_, rfl, (hF2.same hF3).drewN' _⟩ <;> rw [hnx.out, hS.out]
      · have hq : ((k : Int) / 16 == 0) = false := by simp; omega
        have hq1 : ((k : Int) / 16 == 1) = false := by simp; omega
        have hq2 : ((k : Int) / 16 == 2) = true := by simp; omega
        obtain ⟨hm1, hm2⟩ := mixR_2 (k := k) hr hb2 hc hd
        have hwc := Hid.mk' (rword_int (cap := cap) (z := (3 * (k : Int) + 5) % 16) (Md.mixG k) (by rw [hm2]; omega) hmg hl (fun i hi => hF.cell (hs'.out i hi) (by simp)))
        have a2 : (3 * (k : Int) + 5).tmod 16 = (3 * (k : Int) + 5) % 16 := Int.tmod_eq_emod_of_nonneg (by omega)
        clear hm2
        generalize Md.mixF k b c d = mf at *
        generalize Md.mixG k = mg at *
        generalize Md.sines.getD k 0 = sn at *
        generalize Md.word l o mg = wd at *
        generalize Md.turn k = tn at *
        obtain ⟨F, hFe⟩ : ∃ F, F = (mf + a + sn + wd) % 4294967296 := ⟨_, rfl⟩
        rw [← hFe] at hS
        have hFlt : F < 4294967296 := by rw [hFe]; exact Nat.mod_lt _ (by decide)
        have f1 : bits .and .i64 ((mf : Int) + (a : Int) + (sn : Int) + (wd : Int)) 4294967295 = (F : Int) := by
          rw [show ((mf : Int) + (a : Int) + (sn : Int) + (wd : Int)) = ((mf + a + sn + wd : Nat) : Int) by omega, i64_mask32 _ (by omega), hFe]
        clear hFe
        have f2 := rot_i64 F tn hFlt ht2
        have f3 : IntKind.i64.wrap ((F : Int) * 2 ^ tn) = (F : Int) * 2 ^ tn := by
          have h1 : F * 2 ^ tn ≤ 4294967296 * 2 ^ 23 := Nat.mul_le_mul (by omega) (Nat.pow_le_pow_right (by decide) ht2)
          have h2 : ((F : Int) * 2 ^ tn) = ((F * 2 ^ tn : Nat) : Int) := by simp
          rw [h2]; exact i64_small _ (by omega)
        have f4 : IntKind.i64.wrap (32 - (tn : Int)) = 32 - (tn : Int) := IntWalk.i64_in _ (by omega)
        have f5 : (32 - (tn : Int)).toNat = 32 - tn := by omega
        have f6 : (0 : Int) ≤ 32 - (tn : Int) := by omega
        have hrl := Md.rot_lt (n := tn) hFlt
        generalize Md.rot F tn = R at *
        obtain ⟨B, hBe⟩ : ∃ B, B = (b + R) % 4294967296 := ⟨_, rfl⟩
        rw [← hBe] at hS
        have f7 : bits .and .i64 ((b : Int) + (R : Int)) 4294967295 = (B : Int) := by
          rw [show ((b : Int) + (R : Int)) = ((b + R : Nat) : Int) by omega, i64_mask32 _ (by omega), hBe]
        clear hBe
        go_wp2_with (go_at_call 33; (with_reducible refine (hwc.out).mono ?_); rintro e w2 ⟨rfl, n2, rfl⟩)
        have hsn2 : (wr.drewN n2).cell? ⟨ab, k, none⟩ = some (.int .i64 sn) := by simpa using hsn
        have hF2 : Fr [] w (wr.drewN n2) := hF.drewN' n2
        generalize wr.drewN n2 = wq at *
        clear hsn hF
        go_wp2_with (go_at_call 34; (with_reducible refine (hsc.out _).mono ?_); rintro e w3 ⟨rfl, hF3⟩)
        go_quiet (fail)
        go_wp2_with fail
        go_roundg (64 - (k + 1))
        case measure => have := hG.out; omega
        case rel =>
          refine ⟨k + 1, rfl, by omega, ?_, ?_, ?_, ?_, rfl, (hF2.same hF3).drewN' _⟩ <;> rw [hnx.out, hS.out]
      · have hq : ((k : Int) / 16 == 0) = false := by simp; omega
        have hq1 : ((k : Int) / 16 == 1) = false := by simp; omega
        have hq2 : ((k : Int) / 16 == 2) = false := by simp; omega
        obtain ⟨hm1, hm2⟩ := mixR_3 (k := k) hr hb2 hc hd
        have hwc := Hid.mk' (rword_int (cap := cap) (z := 7 * (k : Int) % 16) (Md.mixG k) (by rw [hm2]; omega) hmg hl (fun i hi => hF.cell (hs'.out i hi) (by simp)))
        have a2 : (7 * (k : Int)).tmod 16 = (7 * (k : Int)) % 16 := Int.tmod_eq_emod_of_nonneg (by omega)
        clear hm2
        generalize Md.mixF k b c d = mf at *
        generalize Md.mixG k = mg at *
        generalize Md.sines.getD k 0 = sn at *
        generalize Md.word l o mg = wd at *
        generalize Md.turn k = tn at *
        obtain ⟨F, hFe⟩ : ∃ F, F = (mf + a + sn + wd) % 4294967296 := ⟨_, rfl⟩
        rw [← hFe] at hS
        have hFlt : F < 4294967296 := by rw [hFe]; exact Nat.mod_lt _ (by decide)
        have f1 : bits .and .i64 ((mf : Int) + (a : Int) + (sn : Int) + (wd : Int)) 4294967295 = (F : Int) := by
          rw [show ((mf : Int) + (a : Int) + (sn : Int) + (wd : Int)) = ((mf + a + sn + wd : Nat) : Int) by omega, i64_mask32 _ (by omega), hFe]
        clear hFe
        have f2 := rot_i64 F tn hFlt ht2
        have f3 : IntKind.i64.wrap ((F : Int) * 2 ^ tn) = (F : Int) * 2 ^ tn := by
          have h1 : F * 2 ^ tn ≤ 4294967296 * 2 ^ 23 := Nat.mul_le_mul (by omega) (Nat.pow_le_pow_right (by decide) ht2)
          have h2 : ((F : Int) * 2 ^ tn) = ((F * 2 ^ tn : Nat) : Int) := by simp
          rw [h2]; exact i64_small _ (by omega)
        have f4 : IntKind.i64.wrap (32 - (tn : Int)) = 32 - (tn : Int) := IntWalk.i64_in _ (by omega)
        have f5 : (32 - (tn : Int)).toNat = 32 - tn := by omega
        have f6 : (0 : Int) ≤ 32 - (tn : Int) := by omega
        have hrl := Md.rot_lt (n := tn) hFlt
        generalize Md.rot F tn = R at *
        obtain ⟨B, hBe⟩ : ∃ B, B = (b + R) % 4294967296 := ⟨_, rfl⟩
        rw [← hBe] at hS
        have f7 : bits .and .i64 ((b : Int) + (R : Int)) 4294967295 = (B : Int) := by
          rw [show ((b : Int) + (R : Int)) = ((b + R : Nat) : Int) by omega, i64_mask32 _ (by omega), hBe]
        clear hBe
        go_wp2_with (go_at_call 33; (with_reducible refine (hwc.out).mono ?_); rintro e w2 ⟨rfl, n2, rfl⟩)
        have hsn2 : (wr.drewN n2).cell? ⟨ab, k, none⟩ = some (.int .i64 sn) := by simpa using hsn
        have hF2 : Fr [] w (wr.drewN n2) := hF.drewN' n2
        generalize wr.drewN n2 = wq at *
        clear hsn hF
        go_wp2_with (go_at_call 34; (with_reducible refine (hsc.out _).mono ?_); rintro e w3 ⟨rfl, hF3⟩)
        go_quiet (fail)
        go_wp2_with fail
        go_roundg (64 - (k + 1))
        case measure => have := hG.out; omega
        case rel =>
          refine ⟨k + 1, rfl, by omega, ?_, ?_, ?_, ?_, rfl, (hF2.same hF3).drewN' _⟩ <;> rw [hnx.out, hS.out]
    · obtain rfl : k = 64 := by omega
      have c0 := hF.cell (a := ⟨hb, 0, none⟩) (hh'.out 0 (by decide)) (by simp)
      have c1 := hF.cell (a := ⟨hb, 1, none⟩) (hh'.out 1 (by decide)) (by simp)
      have c2 := hF.cell (a := ⟨hb, 2, none⟩) (hh'.out 2 (by decide)) (by simp)
      have c3 := hF.cell (a := ⟨hb, 3, none⟩) (hh'.out 3 (by decide)) (by simp)
      simp at c0 c1 c2 c3
      have hfin : Hid (Md.block (Md.word l o) st = ⟨(st.a + (Md.steps (Md.word l o) st 64).a) % 4294967296, (st.b + (Md.steps (Md.word l o) st 64).b) % 4294967296, (st.c + (Md.steps (Md.word l o) st 64).c) % 4294967296, (st.d + (Md.steps (Md.word l o) st 64).d) % 4294967296⟩) := rfl
      generalize Md.steps (Md.word l o) st 64 = se at *
      obtain ⟨ra, rb, rc, rd⟩ := se
      obtain ⟨l1, l2, l3, l4⟩ := hsk
      obtain ⟨o1, o2, o3, o4⟩ := hok
      simp only at l1 l2 l3 l4
      have M : ∀ x y : Nat, x < 4294967296 → y < 4294967296 → bits .and .i64 ((x : Int) + (y : Int)) 4294967295 = (((x + y) % 4294967296 : Nat) : Int) := fun x y hx hy => by
        rw [show ((x : Int) + (y : Int)) = ((x + y : Nat) : Int) by omega, i64_mask32 _ (by omega)]
      have m1 := M _ _ o1 l1
      have m2 := M _ _ o2 l2
      have m3 := M _ _ o3 l3
      have m4 := M _ _ o4 l4
      clear M
      generalize st.a = sa at *
      generalize st.b = sb' at *
      generalize st.c = sc at *
      generalize st.d = sd at *
      generalize (sa + ra) % 4294967296 = x1 at *
      generalize (sb' + rb) % 4294967296 = x2 at *
      generalize (sc + rc) % 4294967296 = x3 at *
      generalize (sd + rd) % 4294967296 = x4 at *
      go_wp2_with fail
      refine wp_tail 24 (by kernel_rfl) (by kernel_rfl) ?_
      simp only [List.take_succ_cons, List.take_zero, List.drop_succ_cons, List.drop_zero]
      repeat still_step
      refine wpStill_nil ?_
      go_wp2_with fail
      go_ret
      refine ⟨wr.heap.size, rfl, fun i _ => ?_, (hF.alloc' _).drewN' 1⟩
      refine (((Blk.new wr _ _).drewN 1).cell i).trans ?_
      rw [hfin.out, ← m1, ← m2, ← m3, ← m4]
end Go.Proofs.YthigfpaajbejdaaDoor
