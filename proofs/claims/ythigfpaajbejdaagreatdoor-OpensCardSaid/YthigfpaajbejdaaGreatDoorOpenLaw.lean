/-
  flacpairlaw.Opens, walked: it answers true.
-/
import Derived.Test.YthigfpaajbejdaaGreatDoorPOpen
import Derived.Test.YthigfpaajbejdaaGreatDoorRefOpen5
namespace Go.Proofs.YthigfpaajbejdaaGreatDoor
open Go.RowKit

set_option maxHeartbeats 400000 in
theorem openSmall_any (s : ByteArray) (a1 : Option Addr) (l1 c1 : Nat) (w : World) :
    Calls Tryz.prog 16 #[.string s, .slice a1 l1 c1, .slice none 0 0] w fun e w' => e = .returned (.bool (decide (s.size ≤ 1048576 ∧ l1 ≤ 1048576))) ∧ w = w' := by
  by_cases h1 : s.size ≤ 1048576
  · by_cases h2 : l1 ≤ 1048576
    · have g1 : (s.size : Int) ≤ 1048576 := by omega
      have g2 : (l1 : Int) ≤ 1048576 := by omega
      rw [decide_eq_true (show s.size ≤ 1048576 ∧ l1 ≤ 1048576 from ⟨h1, h2⟩)]
      go_enter Tryz.func16, Tryz.ntmps16
      go_wp2_with fail
      go_ret
      exact ⟨rfl, rfl⟩
    · have g1 : (s.size : Int) ≤ 1048576 := by omega
      have g2 : ¬ (l1 : Int) ≤ 1048576 := by omega
      rw [decide_eq_false (show ¬ (s.size ≤ 1048576 ∧ l1 ≤ 1048576) from fun h => h2 h.2)]
      go_enter Tryz.func16, Tryz.ntmps16
      go_wp2_with fail
      go_ret
      exact ⟨rfl, rfl⟩
  · have g1 : ¬ (s.size : Int) ≤ 1048576 := by omega
    rw [decide_eq_false (show ¬ (s.size ≤ 1048576 ∧ l1 ≤ 1048576) from fun h => h1 h.1)]
    go_enter Tryz.func16, Tryz.ntmps16
    go_wp2_with fail
    go_ret
    exact ⟨rfl, rfl⟩
theorem rOpen_all0 {B : Nat} {w : World} {c : Cfg} {a : Option Addr} {cap : Nat} (hk : LimOk c) (hP : Pcs B w a c.ps) :
    Calls Tryz.prog 18 #[.string c.text, .slice a c.ps.length cap, .int .i64 c.broken, .int .i64 0] w (ROpen c c.openAll w) := by
  have hlen := hk.small
  unfold Cfg.openAll
  by_cases hL : c.lim.1 < 4
  · rw [if_pos hL]; exact rOpen_short0 hk hP hlen hL
  · rw [if_neg hL]
    by_cases hm : c.markText ≠ [102, 76, 97, 67]
    · rw [if_pos hm]; exact rOpen_mark0 hk hP hlen (by omega) hm
    · rw [if_neg hm]; exact rOpen_run0 hk hP hlen (by omega) (Decidable.not_not.1 hm) rfl
theorem rOpen_all1 {B : Nat} {w : World} {c : Cfg} {a : Option Addr} {cap : Nat} (hk : LimOk c) (hP : Pcs B w a c.ps) :
    Calls Tryz.prog 18 #[.string c.text, .slice a c.ps.length cap, .int .i64 c.broken, .int .i64 1] w (ROpen c c.openAll w) := by
  have hlen := hk.small
  unfold Cfg.openAll
  by_cases hL : c.lim.1 < 4
  · rw [if_pos hL]; exact rOpen_short1 hk hP hlen hL
  · rw [if_neg hL]
    by_cases hm : c.markText ≠ [102, 76, 97, 67]
    · rw [if_pos hm]; exact rOpen_mark1 hk hP hlen (by omega) hm
    · rw [if_neg hm]; exact rOpen_run1 hk hP hlen (by omega) (Decidable.not_not.1 hm) rfl
/-- One fault, twice told. -/
theorem same_any (e f a : Int) (w : World) : Calls Tryz.prog 19 #[.agg #[.int .i64 e, .int .i64 f, .int .i64 a], .agg #[.int .i64 e, .int .i64 f, .int .i64 a]] w fun ev w' => ev = .returned (.bool true) ∧ Fr [] w w' := by
  by_cases h1 : e = 1
  · subst h1
    go_enter Tryz.func19, Tryz.ntmps19
    go_wp2_with fail
    go_ret
    exact ⟨rfl, (Fr.alloc [] w _).alloc' _⟩
  · have he : (e == 1) = false := by simpa using h1
    go_enter Tryz.func19, Tryz.ntmps19
    go_wp2_with fail
    go_ret
    exact ⟨rfl, (Fr.alloc [] w _).alloc' _⟩

end Go.Proofs.YthigfpaajbejdaaGreatDoor
