/-
  flacpairlaw.Sums, walked: it answers true.
-/
import Derived.Test.YthigfpaajbejdaaDoorPSums
import Derived.Test.YthigfpaajbejdaaDoorRefCrc
namespace Go.Proofs.YthigfpaajbejdaaDoor
open Go.RowKit

theorem txt_inj {a b : ByteArray} (h : txt a = txt b) : a = b := by
  apply ByteArray.ext
  apply Array.toList_inj.1
  have hi : ∀ (x y : List UInt8), x.map UInt8.toNat = y.map UInt8.toNat → x = y := by
    intro x
    induction x with
    | nil => intro y h; cases y with
      | nil => rfl
      | cons => cases h
    | cons u x ih => intro y h; cases y with
      | nil => cases h
      | cons v y =>
        simp only [List.map_cons, List.cons.injEq] at h
        rw [UInt8.toNat_inj.1 h.1, ih y h.2]
  exact hi _ _ h
theorem sumsSmall_yes (s : ByteArray) (h : s.size ≤ 1048576) (w : World) :
    Calls Tryd.prog 5 #[.string s, .slice none 0 0, .slice none 0 0] w fun e w' => e = .returned (.bool true) ∧ w = w' := by
  have g1 : (s.size : Int) ≤ 1048576 := by omega
  go_enter Tryd.func5, Tryd.ntmps5
  go_wp2_with fail
  go_ret
  exact ⟨rfl, rfl⟩
theorem sumsSmall_no (s : ByteArray) (h : ¬ s.size ≤ 1048576) (w : World) :
    Calls Tryd.prog 5 #[.string s, .slice none 0 0, .slice none 0 0] w fun e w' => e = .returned (.bool false) ∧ w = w' := by
  have g1 : ¬ (s.size : Int) ≤ 1048576 := by omega
  go_enter Tryd.func5, Tryd.ntmps5
  go_wp2_with fail
  go_ret
  exact ⟨rfl, rfl⟩

set_option maxHeartbeats 1000000 in
theorem sums_big (s : ByteArray) (kind n : Int) (h : ¬ s.size ≤ 1048576) (w : World) :
    Calls Tryd.prog 3 #[.string s, .int .i64 kind, .int .i64 n] w fun e w' => e = .returned (.bool true) ∧ Fr [] w w' := by
  go_enter Tryd.func3, Tryd.ntmps3
  go_wp2_with (go_at_call 5; (with_reducible refine (sumsSmall_no s h _).mono ?_); rintro e w1 ⟨rfl, rfl⟩)
  go_ret
  exact ⟨rfl, Fr.refl _ _⟩
set_option maxHeartbeats 2000000 in
theorem sums_ref (s : ByteArray) (kind n : Int) (h : s.size ≤ 1048576) (hN : SumsNo kind n) (w : World) (hg : Gl w) :
    Calls Tryd.prog 3 #[.string s, .int .i64 kind, .int .i64 n] w fun e w' => e = .returned (.bool true) ∧ Fr [] w w' := by
  have hcases : ((kind == 0) = false ∧ (kind == 1) = false ∧ (kind != 0) = true ∧ (kind != 1) = true) ∨ ((kind = 0 ∨ kind = 1) ∧ n < 1) := by
    rcases hN with ⟨h0, h1⟩ | h
    · exact .inl ⟨by simpa using h0, by simpa using h1, by simpa using h0, by simpa using h1⟩
    · exact .inr h
  have hN' := Hid.mk' hN
  have hg' := Hid.mk' hg
  clear hN hg
  rcases hcases with ⟨e0, e1, e2, e3⟩ | ⟨rfl | rfl, hn⟩
  all_goals
    go_enter Tryd.func3, Tryd.ntmps3
    go_wp2_with (first
      | (go_at_call 5; (with_reducible refine (sumsSmall_yes s h _).mono ?_); rintro e w1 ⟨rfl, rfl⟩)
      | (go_at_call 6; (with_reducible refine (pSums_ref s _ n hN'.out _ hg'.out).mono ?_); rintro e w2 ⟨rfl, hf2⟩; have hk2 := (Blk.new w2 #[.int .i64 15, .int .i64 (-1), .int .i64 0] 24).cell))
    go_ret
    exact ⟨rfl, hf2.alloc' _⟩
set_option maxHeartbeats 2000000 in
theorem sums_slow (s : ByteArray) (hs : s.size ≤ 1048576) (n : Nat) (hn : 1 ≤ n) (w : World) (hg : MdGl w) :
    Calls Tryd.prog 3 #[.string s, .int .i64 0, .int .i64 n] w fun e w' => e = .returned (.bool true) ∧ Fr [] w w' := by
  have hn' : (1 : Int) ≤ (n : Int) := by omega
  have hcall := Hid.mk' (pSums_slow s hs n hn w hg)
  have hr8 := fun W => Hid.mk' (rcrc8_any s (by omega) W)
  have hr16 := fun W => Hid.mk' (rcrc16_any s (by omega) W)
  generalize Crc.text 8 7 (txt s) = c8 at *
  generalize Crc.text 16 0x8005 (txt s) = c16 at *
  clear hg
  go_enter Tryd.func3, Tryd.ntmps3
  go_wp2_with (first
    | (go_at_call 5; (with_reducible refine (sumsSmall_yes s hs _).mono ?_); rintro e w1 ⟨rfl, rfl⟩)
    | (go_at_call 6; (with_reducible refine (hcall.out).mono ?_); rintro e w2 ⟨⟨r, rfl, hr⟩, hf2⟩; have hk2 := Blk.new w2 #[.int .i64 0, .int .i64 0, .int .i64 0] 24; have hf3 := hf2.alloc' (.cells #[.int .i64 0, .int .i64 0, .int .i64 0] 24); have hr' := Hid.mk' hr; clear hr)
    | (go_at_call 7; (with_reducible refine ((hr8 _).out).mono ?_); rintro e w4 ⟨rfl, hf4⟩)
    | (go_at_call 7; (with_reducible refine ((hr16 _).out).mono ?_); rintro e w5 ⟨rfl, hf5⟩)
    | (go_at_call 8; (with_reducible refine (rmd5_any s hs _).mono ?_); rintro e w6 ⟨⟨z, rfl, hz⟩, hf6⟩; obtain rfl : z = r := txt_inj (hz.trans hr'.out.symm); have hf7 := hf4.same (hf5.same hf6); have hc7 := (hf7.blk hk2 (by simp)).cell; clear hz))
  go_ret
  exact ⟨rfl, hf3.same hf7⟩

set_option maxHeartbeats 2000000 in
theorem sums_fast (s : ByteArray) (hs : s.size ≤ 1048576) (n : Nat) (hn : 1 ≤ n) (w : World) (hg : MdGl w) :
    Calls Tryd.prog 3 #[.string s, .int .i64 1, .int .i64 n] w fun e w' => e = .returned (.bool true) ∧ Fr [] w w' := by
  have hn' : (1 : Int) ≤ (n : Int) := by omega
  have hcall := Hid.mk' (pSums_fast s hs n hn w hg)
  have hr8 := fun W => Hid.mk' (rcrc8_any s (by omega) W)
  have hr16 := fun W => Hid.mk' (rcrc16_any s (by omega) W)
  generalize Crc.text 8 7 (txt s) = c8 at *
  generalize Crc.text 16 0x8005 (txt s) = c16 at *
  clear hg
  go_enter Tryd.func3, Tryd.ntmps3
  go_wp2_with (first
    | (go_at_call 5; (with_reducible refine (sumsSmall_yes s hs _).mono ?_); rintro e w1 ⟨rfl, rfl⟩)
    | (go_at_call 6; (with_reducible refine (hcall.out).mono ?_); rintro e w2 ⟨⟨r, rfl, hr⟩, hf2⟩; have hk2 := Blk.new w2 #[.int .i64 0, .int .i64 0, .int .i64 0] 24; have hf3 := hf2.alloc' (.cells #[.int .i64 0, .int .i64 0, .int .i64 0] 24); have hr' := Hid.mk' hr; clear hr)
    | (go_at_call 7; (with_reducible refine ((hr8 _).out).mono ?_); rintro e w4 ⟨rfl, hf4⟩)
    | (go_at_call 7; (with_reducible refine ((hr16 _).out).mono ?_); rintro e w5 ⟨rfl, hf5⟩)
    | (go_at_call 8; (with_reducible refine (rmd5_any s hs _).mono ?_); rintro e w6 ⟨⟨z, rfl, hz⟩, hf6⟩; obtain rfl : z = r := txt_inj (hz.trans hr'.out.symm); have hf7 := hf4.same (hf5.same hf6); have hc7 := (hf7.blk hk2 (by simp)).cell; clear hz))
  go_ret
  exact ⟨rfl, hf3.same hf7⟩

theorem sums_any (s : ByteArray) (kind n : Int) (w : World) (hg : Gl w) (hm : MdGl w) :
    Calls Tryd.prog 3 #[.string s, .int .i64 kind, .int .i64 n] w fun e w' => e = .returned (.bool true) ∧ Fr [] w w' := by
  by_cases hs : s.size ≤ 1048576
  · by_cases hN : SumsNo kind n
    · exact sums_ref s kind n hs hN w hg
    · unfold SumsNo at hN
      obtain ⟨m, rfl⟩ : ∃ m : Nat, n = m := ⟨n.toNat, by omega⟩
      rcases (by omega : kind = 0 ∨ kind = 1) with rfl | rfl
      · exact sums_slow s hs m (by omega) w hm
      · exact sums_fast s hs m (by omega) w hm
  · exact sums_big s kind n hs w
end Go.Proofs.YthigfpaajbejdaaDoor
