/-
  flacpairref.reader, walked: text, pass.
-/
import Derived.Test.YthigfpaajbejdaaGreatDoorRefOpen
namespace Go.Proofs.YthigfpaajbejdaaGreatDoor
open Go.RowKit

theorem one_byte0 (wr : World) (k : Nat) (hk : k < 256) : (convert 76 9 (.slice (some ⟨wr.heap.size, 0, none⟩) 1 1)).run Tryz.prog (wr.alloc (.cells #[.int .u8 (k : Int)] 5)) = .ok (.string ⟨#[UInt8.ofNat k]⟩) (wr.alloc (.cells #[.int .u8 (k : Int)] 5)) := by
  refine run_convert_bytes_back (P := Tryz.prog) _ 76 9 5 ⟨wr.heap.size, 0, none⟩ 1 [UInt8.ofNat k] Tryz.underlying76 Tryz.underlying5 Tryz.underlying9 ?_
  intro j hj
  have hj0 : j = 0 := by simpa using hj
  subst hj0
  have := (Blk.new wr #[.int .u8 (k : Int)] 5).cell 0
  refine this.trans ?_
  simp [UInt8.toNat_ofNat', Nat.mod_eq_of_lt hk]
theorem one_byte_z (wr : World) : (convert 76 9 (.slice (some ⟨wr.heap.size, 0, none⟩) 1 1)).run Tryz.prog (wr.alloc (.cells #[.int .u8 0] 5)) = .ok (.string ⟨#[UInt8.ofNat 0]⟩) (wr.alloc (.cells #[.int .u8 0] 5)) := one_byte0 wr 0 (by decide)
theorem extract_snoc (c : Cfg) (a k : Nat) (h : a + k < c.len) : c.text.extract a (a + k) ++ ⟨#[UInt8.ofNat (c.byte (a + k))]⟩ = c.text.extract a (a + (k + 1)) := by
  have h' : a + k < c.text.data.size := h
  have e : (⟨#[UInt8.ofNat (c.byte (a + k))]⟩ : ByteArray) = c.text.extract (a + k) (a + (k + 1)) := by
    apply ByteArray.ext
    apply Array.toList_inj.1
    rw [ByteArray.data_extract]
    have : c.byte (a + k) = (c.text.data[a + k]).toNat := by
      unfold Cfg.byte
      rw [Array.getD_eq_getD_getElem?, Array.getElem?_eq_getElem h']; rfl
    rw [this]
    apply List.ext_getElem?
    intro i
    rcases Nat.lt_or_ge i 1 with hi | hi
    · obtain rfl : i = 0 := by omega
      have hl : c.text.data.toList[a + k]? = some c.text.data[a + k] := by rw [Array.getElem?_toList, Array.getElem?_eq_getElem h']
      simp
      rw [show a + (k + 1) - (a + k) = 1 by omega, List.getElem?_take, if_pos (by decide), List.getElem?_drop, Nat.add_zero, hl]
    · rw [List.getElem?_eq_none (by simpa using hi), List.getElem?_eq_none (by simp; omega)]
  rw [e, extract_join _ _ _ _ (by omega) (by omega)]
theorem rByte_ok {w : World} {rb sb : Nat} {c : Cfg} {q : Nat} (hk : LimOk c) (h : RefB w rb sb c 0 (8 * q)) (hp : q + 1 ≤ c.lim.1) :
    Calls Tryz.prog 46 #[.pointer (some ⟨rb, 0, none⟩), .int .i64 8] w fun e w' => e = .returned (.int .i64 (c.byte q)) ∧ RefB w' rb sb c 0 (8 * (q + 1)) ∧ Fr [rb, sb] w w' := by
  refine (rBits_ok hk h 8 (by decide) (by omega)).mono ?_
  rintro e w' ⟨rfl, h2, h3⟩
  rw [c.bits_byte]
  exact ⟨rfl, h2, h3⟩
theorem rByte_not {w : World} {rb sb : Nat} {c : Cfg} {q : Nat} (hk : LimOk c) (h : RefB w rb sb c 0 (8 * q)) (hq : 8 * q ≤ 8 * c.lim.1) (hp : c.lim.1 < q + 1) :
    Calls Tryz.prog 46 #[.pointer (some ⟨rb, 0, none⟩), .int .i64 8] w fun e w' => e = .returned (.int .i64 0) ∧ RefB w' rb sb c (wantE c.lim.2) (8 * q) ∧ Fr [rb, sb] w w' :=
  rBits_not hk h 8 (by decide) hq (by omega)
/-- The fault behind a read that comes too short. -/
def Cfg.fal (c : Cfg) (e : Nat) : Nat := if e = 0 then wantE c.lim.2 else e
theorem Cfg.fal_ne {c : Cfg} (hk : LimOk c) (e : Nat) : c.fal e ≠ 0 := by
  unfold fal; split
  · exact (wantE_ne hk.stop).1
  · assumption

/-- What text gives. -/
def TextPost (rb sb : Nat) (c : Cfg) (e q n : Nat) (w : World) (ev : Ending) (w' : World) : Prop := ∃ (t : ByteArray) (e' p' : Nat), ev = .returned (.string t) ∧ RefB w' rb sb c e' p' ∧ p' ≤ 8 * c.lim.1 ∧ Fr [rb, sb] w w' ∧
  ((e = 0 ∧ q + n ≤ c.lim.1 ∧ e' = 0 ∧ p' = 8 * (q + n) ∧ t = c.text.extract q (q + n)) ∨ (¬ (e = 0 ∧ q + n ≤ c.lim.1) ∧ e' = c.fal e))
/-- What pass gives. -/
def PassPost (rb sb : Nat) (c : Cfg) (e q n : Nat) (w : World) (ev : Ending) (w' : World) : Prop := ∃ (e' p' : Nat), ev = .returned (.tuple #[]) ∧ RefB w' rb sb c e' p' ∧ p' ≤ 8 * c.lim.1 ∧ Fr [rb, sb] w w' ∧
  ((e = 0 ∧ q + n ≤ c.lim.1 ∧ e' = 0 ∧ p' = 8 * (q + n)) ∨ (¬ (e = 0 ∧ q + n ≤ c.lim.1) ∧ e' = c.fal e))

set_option maxRecDepth 100000 in
set_option maxHeartbeats 2000000 in
theorem rText_any {w : World} {rb sb : Nat} {c : Cfg} {e p q n : Nat} (hk : LimOk c) (h : RefB w rb sb c e p) (hp : p ≤ 8 * c.lim.1) (hq : e = 0 → p = 8 * q) (hn : n ≤ 16) :
    Calls Tryz.prog 44 #[.pointer (some ⟨rb, 0, none⟩), .int .i64 n] w (TextPost rb sb c e q n w) := by
  have hln := hk.len
  have hsm := hk.small
  have hfal := Hid.mk2 (c.fal_ne hk e)
  have hq' := Hid.mk2 hq
  clear hq
  go_enter Tryz.func44, Tryz.ntmps44
  go_wp2_with fail
  go_loopg [5, 6] n (fun g s5 s6 wx => ∃ (k : Nat) (t : ByteArray) (e' p' : Nat), g = n - k ∧ k ≤ n ∧ s5 = .string t ∧ s6 = .int .i64 k ∧ t.size ≤ k ∧ RefB wx rb sb c e' p' ∧ p' ≤ 8 * c.lim.1 ∧ Fr [rb, sb] w wx ∧
    Hid ((e' = 0 ∧ e = 0 ∧ p' = 8 * (q + k) ∧ t = c.text.extract q (q + k)) ∨ (e' = c.fal e ∧ ¬ (e = 0 ∧ q + n ≤ c.lim.1))))
  case atStart =>
    refine ⟨0, ⟨#[]⟩, e, p, rfl, Nat.zero_le _, rfl, rfl, Nat.le_refl _, h, hp, Fr.refl _ _, ?_⟩
    by_cases he : e = 0
    · refine .inl ⟨he, he, by rw [Nat.add_zero]; exact hq'.out he, ?_⟩
      rw [Nat.add_zero]; apply ByteArray.ext; simp [ByteArray.data_extract]
    · exact .inr ⟨by unfold Cfg.fal; rw [if_neg he], fun h => he h.1⟩
  case round =>
    obtain ⟨k, t, e', p', hg, hkn, rfl, rfl, hts, hr, hp', hF, hS⟩ := hrel
    have hG := Hid.mk2 hg
    have hc := hr.blk.cell
    clear hg
    by_cases hlt : k < n
    · have hlt' : (k : Int) < (n : Int) := by omega
      by_cases he' : e' = 0
      · subst he'
        have hS1 : Hid (e = 0 ∧ p' = 8 * (q + k) ∧ t = c.text.extract q (q + k)) := by
          rcases hS.out with h1 | h1
          · exact h1.2
          · exact absurd h1.1.symm hfal.out
        obtain rfl : p' = 8 * (q + k) := hS1.out.2.1
        have hov : ¬ 9223372036854775807 < t.size + 1 := by omega
        by_cases hin : q + k + 1 ≤ c.lim.1
        · have hb := c.byte_lt (q + k)
          have hcv := fun W => one_byte0 W (c.byte (q + k)) hb
          have hby := Hid.mk2 (rByte_ok hk hr hin)
          have hsn := Hid.mk2 (extract_snoc c q k (by omega))
          generalize c.byte (q + k) = b at *
          go_wp2_with (go_at_call 46; (with_reducible refine (hby.out).mono ?_); rintro ev w1 ⟨rfl, hr1, hf1⟩)
          go_roundg (n - (k + 1))
          case measure => have := hG.out; omega
          case rel =>
            refine ⟨k + 1, t ++ ⟨#[UInt8.ofNat b]⟩, 0, 8 * (q + (k + 1)), rfl, hlt, rfl, by go_num, ?_, hr1.still (Fr.alloc [] w1 _), by omega, (hF.same hf1).alloc' _, .inl ⟨rfl, hS1.out.1, rfl, ?_⟩⟩
            · rw [ByteArray.size_append]; exact Nat.add_le_add_right hts 1
            · rw [hS1.out.2.2]; exact hsn.out
        · have hby := Hid.mk2 (rByte_not hk hr hp' (by omega))
          have hcv := fun W => one_byte_z W
          have hbad : Hid (¬ (e = 0 ∧ q + n ≤ c.lim.1)) := fun h => by omega
          have hff : Hid (c.fal e = wantE c.lim.2) := by unfold Hid Cfg.fal; rw [if_pos hS1.out.1]
          generalize wantE c.lim.2 = e0 at *
          go_wp2_with (go_at_call 46; (with_reducible refine (hby.out).mono ?_); rintro ev w1 ⟨rfl, hr1, hf1⟩)
          go_roundg (n - (k + 1))
          case measure => have := hG.out; omega
          case rel =>
            refine ⟨k + 1, t ++ ⟨#[UInt8.ofNat 0]⟩, e0, 8 * (q + k), rfl, hlt, rfl, by go_num, ?_, hr1.still (Fr.alloc [] w1 _), hp', (hF.same hf1).alloc' _, .inr ⟨hff.out.symm, hbad.out⟩⟩
            rw [ByteArray.size_append]; exact Nat.add_le_add_right hts 1
      · have he2 : ((e' : Int) == 0) = false := by simpa using he'
        have hfin : Hid (¬ (e = 0 ∧ q + n ≤ c.lim.1) ∧ e' = c.fal e) := by
          rcases hS.out with h1 | h1
          · exact absurd h1.1 he'
          · exact ⟨h1.2, h1.1⟩
        go_wp2_with fail
        go_ret
        exact ⟨t, e', p', rfl, hr, hp', hF, .inr hfin.out⟩
    · obtain rfl : k = n := by omega
      have hlt' : ¬ (k : Int) < (k : Int) := by omega
      go_wp2_with fail
      go_ret
      refine ⟨t, e', p', rfl, hr, hp', hF, ?_⟩
      rcases hS.out with ⟨h1, h2, h3, h4⟩ | h1
      · exact .inl ⟨h2, by omega, h1, h3, h4⟩
      · exact .inr ⟨h1.2, h1.1⟩

set_option maxRecDepth 100000 in
set_option maxHeartbeats 2000000 in
theorem rPass_any {w : World} {rb sb : Nat} {c : Cfg} {e p q n : Nat} (hk : LimOk c) (h : RefB w rb sb c e p) (hp : p ≤ 8 * c.lim.1) (hq : e = 0 → p = 8 * q) (hn : n < 68719476736) :
    Calls Tryz.prog 48 #[.pointer (some ⟨rb, 0, none⟩), .int .i64 n] w (PassPost rb sb c e q n w) := by
  have hln := hk.len
  have hsm := hk.small
  have hfal := Hid.mk2 (c.fal_ne hk e)
  have hq' := Hid.mk2 hq
  clear hq
  go_enter Tryz.func48, Tryz.ntmps48
  go_wp2_with fail
  go_loopg [4] n (fun g s4 wx => ∃ (k : Nat) (e' p' : Nat), g = n - k ∧ k ≤ n ∧ s4 = .int .i64 k ∧ RefB wx rb sb c e' p' ∧ p' ≤ 8 * c.lim.1 ∧ Fr [rb, sb] w wx ∧
    Hid ((e' = 0 ∧ e = 0 ∧ p' = 8 * (q + k)) ∨ (e' = c.fal e ∧ ¬ (e = 0 ∧ q + n ≤ c.lim.1))))
  case atStart =>
    refine ⟨0, e, p, rfl, Nat.zero_le _, rfl, h, hp, Fr.refl _ _, ?_⟩
    by_cases he : e = 0
    · exact .inl ⟨he, he, by rw [Nat.add_zero]; exact hq'.out he⟩
    · exact .inr ⟨by unfold Cfg.fal; rw [if_neg he], fun h => he h.1⟩
  case round =>
    obtain ⟨k, e', p', hg, hkn, rfl, hr, hp', hF, hS⟩ := hrel
    have hG := Hid.mk2 hg
    have hc := hr.blk.cell
    clear hg
    by_cases hlt : k < n
    · have hlt' : (k : Int) < (n : Int) := by omega
      by_cases he' : e' = 0
      · subst he'
        have hS1 : Hid (e = 0 ∧ p' = 8 * (q + k)) := by
          rcases hS.out with h1 | h1
          · exact h1.2
          · exact absurd h1.1.symm hfal.out
        obtain rfl : p' = 8 * (q + k) := hS1.out.2
        by_cases hin : q + k + 1 ≤ c.lim.1
        · have hby := Hid.mk2 (rByte_ok hk hr hin)
          generalize c.byte (q + k) = b at *
          go_wp2_with (go_at_call 46; (with_reducible refine (hby.out).mono ?_); rintro ev w1 ⟨rfl, hr1, hf1⟩)
          go_roundg (n - (k + 1))
          case measure => have := hG.out; omega
          case rel => exact ⟨k + 1, 0, 8 * (q + (k + 1)), rfl, hlt, by go_num, hr1, by omega, hF.same hf1, .inl ⟨rfl, hS1.out.1, rfl⟩⟩
        · have hby := Hid.mk2 (rByte_not hk hr hp' (by omega))
          have hbad : Hid (¬ (e = 0 ∧ q + n ≤ c.lim.1)) := fun h => by omega
          have hff : Hid (c.fal e = wantE c.lim.2) := by unfold Hid Cfg.fal; rw [if_pos hS1.out.1]
          generalize wantE c.lim.2 = e0 at *
          go_wp2_with (go_at_call 46; (with_reducible refine (hby.out).mono ?_); rintro ev w1 ⟨rfl, hr1, hf1⟩)
          go_roundg (n - (k + 1))
          case measure => have := hG.out; omega
          case rel => exact ⟨k + 1, e0, 8 * (q + k), rfl, hlt, by go_num, hr1, hp', hF.same hf1, .inr ⟨hff.out.symm, hbad.out⟩⟩
      · have he2 : ((e' : Int) == 0) = false := by simpa using he'
        have hfin : Hid (¬ (e = 0 ∧ q + n ≤ c.lim.1) ∧ e' = c.fal e) := by
          rcases hS.out with h1 | h1
          · exact absurd h1.1 he'
          · exact ⟨h1.2, h1.1⟩
        go_wp2_with fail
        go_end0
        exact ⟨e', p', rfl, hr, hp', hF, .inr hfin.out⟩
    · obtain rfl : k = n := by omega
      have hlt' : ¬ (k : Int) < (k : Int) := by omega
      go_wp2_with fail
      go_end0
      refine ⟨e', p', rfl, hr, hp', hF, ?_⟩
      rcases hS.out with ⟨h1, h2, h3⟩ | h1
      · exact .inl ⟨h2, by omega, h1, h3⟩
      · exact .inr ⟨h1.2, h1.1⟩
end Go.Proofs.YthigfpaajbejdaaGreatDoor
