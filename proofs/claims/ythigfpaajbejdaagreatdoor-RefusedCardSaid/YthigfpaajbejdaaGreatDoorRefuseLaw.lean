/-
  flacpairlaw.Refused, walked: it answers true.
-/
import Derived.Test.YthigfpaajbejdaaGreatDoorRefuse
namespace Go.Proofs.YthigfpaajbejdaaGreatDoor
open Go.RowKit

set_option maxHeartbeats 4000000 in
theorem refused_no (kind : Int) (h0 : kind ≠ 0) (h1 : kind ≠ 1) (w : World) (hg : Gl w) : Calls Tryz.prog 6 #[.int .i64 kind] w fun e w' => e = .returned (.bool true) ∧ Fr [] w w' := by
  have e0 : (kind == 0) = false := by simpa using h0
  have e1 : (kind == 1) = false := by simpa using h1
  go_enter Tryz.func6, Tryz.ntmps6
  have hF := Fr.alloc [] w (.cells #[.string ⟨#[]⟩, .slice none 0 0, .int .i64 (-1)] 33)
  have hb := Blk.new w #[.string ⟨#[]⟩, .slice none 0 0, .int .i64 (-1)] 33
  go_wp2_with (first
    | (go_at_call 12; refine (pSums_no _ _ _ h0 h1 _ (hg.keep hF (by simp) (by simp))).mono ?_; rintro e w1 ⟨rfl, hf1⟩; have hF1 := (hF.same hf1).alloc' (.cells #[.int .i64 15, .int .i64 (-1), .int .i64 0] 23); have hb1 := (hf1.blk hb (by simp)).alloc (.cells #[.int .i64 15, .int .i64 (-1), .int .i64 0] 23); have hk1 := Blk.new w1 #[.int .i64 15, .int .i64 (-1), .int .i64 0] 23; have hc1 := hb1.cell)
    | (go_at_call 21; refine (NewBits_no _ h0 h1 _ (hg.keep hF1 (by simp) (by simp))).mono ?_; rintro e w2 ⟨rfl, hf2⟩; have hF2 := (hF1.same hf2).alloc' (.cells #[.int .i64 15, .int .i64 (-1), .int .i64 0] 23); have hb2 := (hf2.blk hb1 (by simp)).alloc (.cells #[.int .i64 15, .int .i64 (-1), .int .i64 0] 23); have hc2 := hb2.cell; have hk2 := (hf2.blk hk1 (by simp)).alloc (.cells #[.int .i64 15, .int .i64 (-1), .int .i64 0] 23); have hq2 := Blk.new w2 #[.int .i64 15, .int .i64 (-1), .int .i64 0] 23)
    | (go_at_call 17; refine (pOpen_no _ h0 h1 _ (hg.keep hF2 (by simp) (by simp))).mono ?_; rintro e w3 ⟨rfl, hf3⟩; have hF3 := (hF2.same hf3).alloc' (.cells #[.int .i64 15, .int .i64 (-1), .int .i64 0] 23); have hk3 := ((hf3.blk hk2 (by simp)).alloc (.cells #[.int .i64 15, .int .i64 (-1), .int .i64 0] 23)).cell; have hq3 := ((hf3.blk hq2 (by simp)).alloc (.cells #[.int .i64 15, .int .i64 (-1), .int .i64 0] 23)).cell))
  go_ret
  exact ⟨rfl, hF3⟩

set_option maxHeartbeats 4000000 in
theorem refused_yes (kind : Int) (h : (kind == 0) = true ∨ (kind == 0) = false ∧ (kind == 1) = true) (w : World) : Calls Tryz.prog 6 #[.int .i64 kind] w fun e w' => e = .returned (.bool true) ∧ Fr [] w w' := by
  rcases h with e0 | ⟨e0, e1⟩
  all_goals
    go_enter Tryz.func6, Tryz.ntmps6
    go_wp2_with fail
    go_ret
    exact ⟨rfl, Fr.refl _ _⟩

theorem refused_any (kind : Int) (w : World) (hg : Gl w) : Calls Tryz.prog 6 #[.int .i64 kind] w fun e w' => e = .returned (.bool true) ∧ Fr [] w w' := by
  by_cases h0 : kind = 0
  · exact refused_yes kind (.inl (by simpa using h0)) w
  · by_cases h1 : kind = 1
    · exact refused_yes kind (.inr ⟨by simpa using h0, by simpa using h1⟩) w
    · exact refused_no kind h0 h1 w hg
end Go.Proofs.YthigfpaajbejdaaGreatDoor
