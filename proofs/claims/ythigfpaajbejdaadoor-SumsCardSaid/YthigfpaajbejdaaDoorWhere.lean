/-
  The text of a place: it ends, and gives some text.
-/
import Derived.Test.YthigfpaajbejdaaDoorErrText
namespace Go.Proofs.YthigfpaajbejdaaDoor
open Go.RowKit

theorem where_keep {w0 w1 w2 : World} {b : Nat} {u v : Value} (h : w1.cell? ⟨b, 0, none⟩ = some u ∧ w1.cell? ⟨b, 1, none⟩ = some v ∧ Fr [] w0 w1) (hf : Fr [] w1 w2) :
    w2.cell? ⟨b, 0, none⟩ = some u ∧ w2.cell? ⟨b, 1, none⟩ = some v ∧ Fr [] w0 w2 :=
  ⟨hf.cell h.1 (by simp), hf.cell h.2.1 (by simp), h.2.2.same hf⟩

theorem itoa_in {w0 W : World} {b : Nat} {u v : Value} {k : Int} (hp : Pow w0) (hg : 3 < w0.heap.size) (hk : OkN k)
    (h : W.cell? ⟨b, 0, none⟩ = some u ∧ W.cell? ⟨b, 1, none⟩ = some v ∧ Fr [] w0 W) : Calls Tryd.prog 97 #[.int .i64 k] W (SomeStr 30 W) :=
  itoa_any k hk W (hp.keep h.2.2 (by simp)) (Nat.lt_of_lt_of_le hg h.2.2.size)

theorem over1 {x : Nat} (h : x ≤ 30) : ¬ 9223372036854775807 < 8 + x := by omega
theorem over2 {x : Nat} (h : x ≤ 30) : ¬ 9223372036854775807 < 8 + x + 7 := by omega
theorem over3 {x y : Nat} (h : x ≤ 30) (h' : y ≤ 30) : ¬ 9223372036854775807 < 8 + x + 7 + y := by omega
theorem over4 {x y : Nat} (h : x ≤ 30) (h' : y ≤ 30) : ¬ 9223372036854775807 < 8 + x + 7 + y + 1 := by omega

theorem over5 {x y : Nat} (h : x ≤ 30) (h' : y ≤ 30) : ({ data := #[32, 40, 102, 114, 97, 109, 101, 32] } : ByteArray).size + x + ({ data := #[44, 32, 98, 121, 116, 101, 32] } : ByteArray).size + y + ({ data := #[41] } : ByteArray).size ≤ 100 := by
  have e : 8 + x + 7 + y + 1 ≤ 100 := by omega
  exact e
theorem over6 {x y : Nat} (h : ({ data := #[32, 40, 102, 114, 97, 109, 101, 32] } : ByteArray).size + x + ({ data := #[44, 32, 98, 121, 116, 101, 32] } : ByteArray).size + y + ({ data := #[41] } : ByteArray).size = ByteArray.empty.size) : False := by
  have e : 8 + x + 7 + y + 1 = 0 := h
  omega

set_option maxRecDepth 100000 in
set_option maxHeartbeats 2000000 in
theorem where_any (n m : Int) (hn : OkN n) (hm : OkN m) (w : World) (hp : Pow w) (hg : 3 < w.heap.size) : Calls Tryd.prog 96 #[.agg #[.int .i64 n, .int .i64 m]] w fun e w' => (∃ s : ByteArray, s.size ≤ 100 ∧ s ≠ ByteArray.empty ∧ e = .returned (.string s)) ∧ Fr [] w w' := by
  go_enter Tryd.func96, Tryd.ntmps96
  go_wp2_with fail
  have c0 : (w.alloc (.cells #[.int .i64 n, .int .i64 m] 75)).cell? ⟨w.heap.size, 0, none⟩ = some (.int .i64 n) := (Blk.new w _ _).cell 0
  have c1 : (w.alloc (.cells #[.int .i64 n, .int .i64 m] 75)).cell? ⟨w.heap.size, 1, none⟩ = some (.int .i64 m) := (Blk.new w _ _).cell 1
  have hF0 : Fr [] w (w.alloc (.cells #[.int .i64 n, .int .i64 m] 75)) := Fr.alloc [] w _
  generalize w.heap.size = b at c0 c1 ⊢
  generalize w.alloc (.cells #[.int .i64 n, .int .i64 m] 75) = w0 at *
  have hp0 : Pow w0 := hp.keep hF0 (by simp)
  have hg0 : 3 < w0.heap.size := Nat.lt_of_lt_of_le hg hF0.size
  go_region_held3 (fun w' => w'.cell? ⟨b, 0, none⟩ = some (.int .i64 n) ∧ w'.cell? ⟨b, 1, none⟩ = some (.int .i64 m) ∧ Fr [] w0 w')
    (first | exact ⟨c0, c1, Fr.drewN [] w0 1⟩ | assumption)
    (first
      | (go_at_call 97; (with_reducible refine (itoa_in hp0 hg0 hn (by assumption)).mono ?_); rintro e w1 ⟨s1, hs1, rfl, hf1⟩; have hS1 := where_keep (by assumption) hf1; have k1 : ¬ 9223372036854775807 < 8 + s1.size := over1 hs1; have k2 : ¬ 9223372036854775807 < 8 + s1.size + 7 := over2 hs1)
      | (go_at_call 97; (with_reducible refine (itoa_in hp0 hg0 hm (by assumption)).mono ?_); rintro e w2 ⟨s2, hs2, rfl, hf2⟩; have hS2 := where_keep (by assumption) hf2; have k3 : ¬ 9223372036854775807 < 8 + s1.size + 7 + s2.size := over3 hs1 hs2; have k4 : ¬ 9223372036854775807 < 8 + s1.size + 7 + s2.size + 1 := over4 hs1 hs2))
  all_goals
    go_wp2_with fail
    go_ret
    refine ⟨⟨_, ?_, ?_, rfl⟩, hF0.trans hS2.2.2 (by simp)⟩
    · simp only [ByteArray.size_append]; exact over5 hs1 hs2
    · intro h; have := congrArg ByteArray.size h; simp only [ByteArray.size_append] at this; exact over6 this
end Go.Proofs.YthigfpaajbejdaaDoor
