/-
  plain.Sums, walked.
-/
import Derived.Test.YthigfpaajbejdaaDoorFSums
namespace Go.Proofs.YthigfpaajbejdaaDoor
open Go.RowKit

theorem fSums_low0 (s : ByteArray) (n : Int) (hn : n < 1) (w : World) : Calls Tryd.prog 13 #[.string s, .int .i64 0, .int .i64 n] w fun e w' => ∃ v, e = .returned (.tuple #[.int .u8 0, .int .u16 0, .string ⟨#[]⟩, v]) ∧ NewErr w 15 (-1) 0 v w' := by
  go_enter Tryd.func13, Tryd.ntmps13
  go_wp2_with fail
  refine bodyPost_ret (results_tmp4 rfl _ _ _) rfl ?_
  exact ⟨_, rfl, w.heap.size, rfl, ⟨(Blk.new w _ _).cell 0, (Blk.new w _ _).cell 1, (Blk.new w _ _).cell 2⟩, Fr.alloc [] w _, Nat.le_refl _⟩
theorem fSums_low1 (s : ByteArray) (n : Int) (hn : n < 1) (w : World) : Calls Tryd.prog 13 #[.string s, .int .i64 1, .int .i64 n] w fun e w' => ∃ v, e = .returned (.tuple #[.int .u8 0, .int .u16 0, .string ⟨#[]⟩, v]) ∧ NewErr w 15 (-1) 0 v w' := by
  go_enter Tryd.func13, Tryd.ntmps13
  go_wp2_with fail
  refine bodyPost_ret (results_tmp4 rfl _ _ _) rfl ?_
  exact ⟨_, rfl, w.heap.size, rfl, ⟨(Blk.new w _ _).cell 0, (Blk.new w _ _).cell 1, (Blk.new w _ _).cell 2⟩, Fr.alloc [] w _, Nat.le_refl _⟩
/-- What Sums refuses. -/
def SumsNo (kind n : Int) : Prop := (kind ≠ 0 ∧ kind ≠ 1) ∨ ((kind = 0 ∨ kind = 1) ∧ n < 1)
theorem fSums_ref (s : ByteArray) (kind n : Int) (h : SumsNo kind n) (w : World) : Calls Tryd.prog 13 #[.string s, .int .i64 kind, .int .i64 n] w fun e w' => ∃ v, e = .returned (.tuple #[.int .u8 0, .int .u16 0, .string ⟨#[]⟩, v]) ∧ NewErr w 15 (-1) 0 v w' := by
  rcases h with ⟨h0, h1⟩ | ⟨rfl | rfl, hn⟩
  · exact fSums_no s n kind h0 h1 w
  · exact fSums_low0 s n hn w
  · exact fSums_low1 s n hn w
theorem pSums_ref (s : ByteArray) (kind n : Int) (h : SumsNo kind n) (w : World) (hg : Gl w) : Calls Tryd.prog 6 #[.string s, .int .i64 kind, .int .i64 n] w fun e w' =>
    e = .returned (.tuple #[.int .i64 0, .int .i64 0, .string ⟨#[]⟩, .agg #[.int .i64 15, .int .i64 (-1), .int .i64 0]]) ∧ Fr [] w w' := by
  go_enter Tryd.func6, Tryd.ntmps6
  have hg0 := hg.keep (Fr.alloc [] w (.cells #[.int .i64 0, .int .i64 0, .int .i64 0] 24)) (by simp) (by simp)
  have hb0 := Blk.new w #[.int .i64 0, .int .i64 0, .int .i64 0] 24
  have hF0 := Fr.alloc [] w (.cells #[.int .i64 0, .int .i64 0, .int .i64 0] 24)
  go_wp2_with (first
    | (go_at_call 13; refine (fSums_ref _ _ _ h _).mono ?_; rintro e w1 ⟨v, rfl, he⟩)
    | (go_at_call 14; refine (fault_of _ 15 _ _ _ (by decide) (by decide) (.inl rfl) (.inr ⟨by decide, by decide⟩) _ hg0 he).mono ?_; rintro e w2 ⟨rfl, hf2⟩; have hb2 := hf2.blk hb0 (by simp); have hc2 := hb2.cell; have hz2 := hb2.frozen))
  refine bodyPost_ret (results_tttc rfl _ _ w.heap.size 24 #[.int .i64 15, .int .i64 (-1), .int .i64 0] (0, 0) _ rfl (((hb2.set 0 _).set 1 _).set 2 _) Tryd.underlying24 rfl (by kernel_rfl)) rfl ?_
  exact ⟨rfl, (((hF0.same hf2).setNew _ (Nat.le_refl _)).setNew _ (Nat.le_refl _)).setNew _ (Nat.le_refl _)⟩

theorem crc8_lt (s : ByteArray) : Crc.text 8 7 (txt s) < 256 := by
  have := crcTo_lt 8 7 (by decide) (by decide) s s.size
  rwa [crcTo_all] at this
theorem crc16_lt (s : ByteArray) : Crc.text 16 0x8005 (txt s) < 65536 := by
  have := crcTo_lt 16 0x8005 (by decide) (by decide) s s.size
  rwa [crcTo_all] at this
set_option maxHeartbeats 1000000 in
theorem pSums_slow (s : ByteArray) (hs : s.size ≤ 1048576) (n : Nat) (hn : 1 ≤ n) (w : World) (hg : MdGl w) : Calls Tryd.prog 6 #[.string s, .int .i64 0, .int .i64 n] w fun e w' =>
    (∃ r : ByteArray, e = .returned (.tuple #[.int .i64 (Crc.text 8 7 (txt s)), .int .i64 (Crc.text 16 0x8005 (txt s)), .string r, .agg #[.int .i64 0, .int .i64 0, .int .i64 0]]) ∧ txt r = Md.sum (bl s) s.size) ∧ Fr [] w w' := by
  have h8 := crc8_lt s
  have h16 := crc16_lt s
  have hcall := fun W hW => Hid.mk' (fSums_slow s hs n hn W hW)
  generalize Crc.text 8 7 (txt s) = c8 at *
  generalize Crc.text 16 0x8005 (txt s) = c16 at *
  have hg0 := Hid.mk' (hg.keep (Fr.alloc [] w (.cells #[.int .i64 0, .int .i64 0, .int .i64 0] 24)) (by simp) (by simp))
  have hb0 := Blk.new w #[.int .i64 0, .int .i64 0, .int .i64 0] 24
  have hF0 := Fr.alloc [] w (.cells #[.int .i64 0, .int .i64 0, .int .i64 0] 24)
  clear hg
  go_enter Tryd.func6, Tryd.ntmps6
  go_wp2_with (first
    | (go_at_call 13; (with_reducible refine ((hcall _ hg0.out).out).mono ?_); rintro e w1 ⟨⟨r, rfl, hr⟩, hf1⟩; have hr' := Hid.mk' hr; clear hr)
    | (go_at_call 14; refine (fault_nil _).mono ?_; rintro e w2 ⟨rfl, hf2⟩; have hb2 := (hf1.same hf2).blk hb0 (by simp); have hc2 := hb2.cell; have hz2 := hb2.frozen))
  refine bodyPost_ret (results_tttc rfl _ _ w.heap.size 24 #[.int .i64 0, .int .i64 0, .int .i64 0] (0, 0) _ rfl (((hb2.set 0 _).set 1 _).set 2 _) Tryd.underlying24 rfl (by kernel_rfl)) rfl ?_
  exact ⟨⟨r, rfl, hr'.out⟩, (((hF0.same (hf1.same hf2)).setNew _ (Nat.le_refl _)).setNew _ (Nat.le_refl _)).setNew _ (Nat.le_refl _)⟩

set_option maxHeartbeats 1000000 in
theorem pSums_fast (s : ByteArray) (hs : s.size ≤ 1048576) (n : Nat) (hn : 1 ≤ n) (w : World) (hg : MdGl w) : Calls Tryd.prog 6 #[.string s, .int .i64 1, .int .i64 n] w fun e w' =>
    (∃ r : ByteArray, e = .returned (.tuple #[.int .i64 (Crc.text 8 7 (txt s)), .int .i64 (Crc.text 16 0x8005 (txt s)), .string r, .agg #[.int .i64 0, .int .i64 0, .int .i64 0]]) ∧ txt r = Md.sum (bl s) s.size) ∧ Fr [] w w' := by
  have h8 := crc8_lt s
  have h16 := crc16_lt s
  have hcall := fun W hW => Hid.mk' (fSums_fast s hs n hn W hW)
  generalize Crc.text 8 7 (txt s) = c8 at *
  generalize Crc.text 16 0x8005 (txt s) = c16 at *
  have hg0 := Hid.mk' (hg.keep (Fr.alloc [] w (.cells #[.int .i64 0, .int .i64 0, .int .i64 0] 24)) (by simp) (by simp))
  have hb0 := Blk.new w #[.int .i64 0, .int .i64 0, .int .i64 0] 24
  have hF0 := Fr.alloc [] w (.cells #[.int .i64 0, .int .i64 0, .int .i64 0] 24)
  clear hg
  go_enter Tryd.func6, Tryd.ntmps6
  go_wp2_with (first
    | (go_at_call 13; (with_reducible refine ((hcall _ hg0.out).out).mono ?_); rintro e w1 ⟨⟨r, rfl, hr⟩, hf1⟩; have hr' := Hid.mk' hr; clear hr)
    | (go_at_call 14; refine (fault_nil _).mono ?_; rintro e w2 ⟨rfl, hf2⟩; have hb2 := (hf1.same hf2).blk hb0 (by simp); have hc2 := hb2.cell; have hz2 := hb2.frozen))
  refine bodyPost_ret (results_tttc rfl _ _ w.heap.size 24 #[.int .i64 0, .int .i64 0, .int .i64 0] (0, 0) _ rfl (((hb2.set 0 _).set 1 _).set 2 _) Tryd.underlying24 rfl (by kernel_rfl)) rfl ?_
  exact ⟨⟨r, rfl, hr'.out⟩, (((hF0.same (hf1.same hf2)).setNew _ (Nat.le_refl _)).setNew _ (Nat.le_refl _)).setNew _ (Nat.le_refl _)⟩

end Go.Proofs.YthigfpaajbejdaaDoor
