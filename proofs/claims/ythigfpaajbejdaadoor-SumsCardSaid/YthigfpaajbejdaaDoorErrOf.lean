/-
  The texts of the program's errors, and an api.Error's whole text: they end, and none is empty.
-/
import Derived.Test.YthigfpaajbejdaaDoorWhere
import Derived.Test.YthigfpaajbejdaaDoorAsHit
namespace Go.Proofs.YthigfpaajbejdaaDoor
open Go.RowKit

/-- Some text that is not empty, of at most 100 bytes; nothing has turned. -/
def Says (w : World) (e : Ending) (w' : World) : Prop := (∃ s : ByteArray, s.size ≤ 100 ∧ s ≠ ByteArray.empty ∧ e = .returned (.string s)) ∧ w = w'
theorem lit_ne {a : Array UInt8} (h : (a.size == 0) = false) : (⟨a⟩ : ByteArray) ≠ ByteArray.empty := by
  intro e
  have h2 : a.size = 0 := congrArg ByteArray.size e
  rw [h2] at h; simp at h

set_option maxHeartbeats 1000000 in
theorem fErr_any (n : Int) (w : World) : Calls Tryd.prog 111 #[.int .i64 n] w (Says w) := by
  go_enter Tryd.func111, Tryd.ntmps111
  go_wp2_with fail
  all_goals go_ret
  all_goals exact ⟨⟨_, of_decide_eq_true rfl, lit_ne rfl, rfl⟩, rfl⟩

theorem pfErr_any (n : Int) (w : World) : Calls Tryd.prog 117 #[.int .i64 n] w (Says w) := by
  go_enter Tryd.func117, Tryd.ntmps117
  go_wp2_with fail
  all_goals go_ret
  all_goals exact ⟨⟨_, of_decide_eq_true rfl, lit_ne rfl, rfl⟩, rfl⟩

theorem f_meth (n : Int) (w : World) : (Go.method 336 76 (.int .i64 n) "Error").run Tryd.prog w = .ok (111, .int .i64 n) w := by kernel_rfl
theorem pf_meth (n : Int) (w : World) : (Go.method 336 123 (.int .i64 n) "Error").run Tryd.prog w = .ok (117, .int .i64 n) w := by kernel_rfl
theorem e_meth (a : Addr) (w : World) : (Go.method 336 73 (.pointer (some a)) "Error").run Tryd.prog w = .ok (94, .pointer (some a)) w := by kernel_rfl

/-- What stands in an api.Error's cells. -/
def ErrAt (w : World) (b : Nat) (n m : Int) (v : Value) : Prop :=
  w.cell? ⟨b, 0, none⟩ = some (.int .i64 n) ∧ w.cell? ⟨b, 1, none⟩ = some (.int .i64 m) ∧ w.cell? ⟨b, 2, none⟩ = some v
theorem ErrAt.keep {S : List Nat} {w w' : World} {b : Nat} {n m : Int} {v : Value} (h : ErrAt w b n m v) (hf : Fr S w w') (hS : b ∉ S) : ErrAt w' b n m v :=
  ⟨hf.cell h.1 hS, hf.cell h.2.1 hS, hf.cell h.2.2 hS⟩
theorem errText_keep {w0 w1 w2 : World} {b : Nat} {u v x : Value} (h : w1.cell? ⟨b, 0, none⟩ = some u ∧ w1.cell? ⟨b, 1, none⟩ = some v ∧ w1.cell? ⟨b, 2, none⟩ = some x ∧ Fr [] w0 w1) (hf : Fr [] w1 w2) :
    w2.cell? ⟨b, 0, none⟩ = some u ∧ w2.cell? ⟨b, 1, none⟩ = some v ∧ w2.cell? ⟨b, 2, none⟩ = some x ∧ Fr [] w0 w2 :=
  ⟨hf.cell h.1 (by simp), hf.cell h.2.1 (by simp), hf.cell h.2.2.1 (by simp), h.2.2.2.same hf⟩
theorem where_in {w0 W : World} {b : Nat} {u v x : Value} {n m : Int} (hp : Pow w0) (hg : 3 < w0.heap.size) (hn : OkN n) (hm : OkN m)
    (h : W.cell? ⟨b, 0, none⟩ = some u ∧ W.cell? ⟨b, 1, none⟩ = some v ∧ W.cell? ⟨b, 2, none⟩ = some x ∧ Fr [] w0 W) :
    Calls Tryd.prog 96 #[.agg #[.int .i64 n, .int .i64 m]] W fun e w' => (∃ s : ByteArray, s.size ≤ 100 ∧ s ≠ ByteArray.empty ∧ e = .returned (.string s)) ∧ Fr [] W w' :=
  where_any n m hn hm W (hp.keep h.2.2.2 (by simp)) (Nat.lt_of_lt_of_le hg h.2.2.2.size)
theorem overE {x y : Nat} (h : x ≤ 100) (h' : y ≤ 100) : ¬ 9223372036854775807 < x + y := by omega
theorem append_ne {s t : ByteArray} (h : s ≠ ByteArray.empty) : s ++ t ≠ ByteArray.empty := by
  intro e
  have h2 : (s ++ t).size = 0 := congrArg ByteArray.size e
  rw [ByteArray.size_append] at h2
  apply h
  apply ByteArray.ext
  exact Array.size_eq_zero_iff.1 (show s.data.size = 0 by have : s.data.size = s.size := rfl; omega)

set_option maxRecDepth 100000 in
set_option maxHeartbeats 2000000 in
theorem eError_f (b : Nat) (k n m : Int) (hn : OkN n) (hm : OkN m) (w : World) (hp : Pow w) (hg : 3 < w.heap.size) (he : ErrAt w b n m (.iface 76 (.int .i64 k))) :
    Calls Tryd.prog 94 #[.pointer (some ⟨b, 0, none⟩)] w fun e w' => (∃ s : ByteArray, s ≠ ByteArray.empty ∧ e = .returned (.string s)) ∧ Fr [] w w' := by
  have m1 := f_meth
  obtain ⟨c0, c1, c2⟩ := he
  go_enter Tryd.func94, Tryd.ntmps94
  go_wp2_with fail
  go_region_held3 (fun w' => w'.cell? ⟨b, 0, none⟩ = some (.int .i64 n) ∧ w'.cell? ⟨b, 1, none⟩ = some (.int .i64 m) ∧ w'.cell? ⟨b, 2, none⟩ = some (.iface 76 (.int .i64 k)) ∧ Fr [] w w')
    (first | exact ⟨c0, c1, c2, Fr.drewN [] w 1⟩ | assumption)
    (first
      | (go_at_call 111; (with_reducible refine (fErr_any k _).mono ?_); rintro e w1 ⟨⟨s1, hs1, hne1, rfl⟩, rfl⟩)
      | (go_at_call 96; (with_reducible refine (where_in hp hg hn hm (by assumption)).mono ?_); rintro e w2 ⟨⟨s2, hs2, hne2, rfl⟩, hf2⟩; have hS2 := errText_keep (by assumption) hf2; have k1 : ¬ 9223372036854775807 < s1.size + s2.size := overE hs1 hs2))
  all_goals
    go_wp2_with fail
    go_ret
    exact ⟨⟨_, append_ne hne1, rfl⟩, hS2.2.2.2⟩

set_option maxRecDepth 100000 in
set_option maxHeartbeats 2000000 in
theorem eError_p (b : Nat) (k n m : Int) (hn : OkN n) (hm : OkN m) (w : World) (hp : Pow w) (hg : 3 < w.heap.size) (he : ErrAt w b n m (.iface 123 (.int .i64 k))) :
    Calls Tryd.prog 94 #[.pointer (some ⟨b, 0, none⟩)] w fun e w' => (∃ s : ByteArray, s ≠ ByteArray.empty ∧ e = .returned (.string s)) ∧ Fr [] w w' := by
  have m1 := pf_meth
  obtain ⟨c0, c1, c2⟩ := he
  go_enter Tryd.func94, Tryd.ntmps94
  go_wp2_with fail
  go_region_held3 (fun w' => w'.cell? ⟨b, 0, none⟩ = some (.int .i64 n) ∧ w'.cell? ⟨b, 1, none⟩ = some (.int .i64 m) ∧ w'.cell? ⟨b, 2, none⟩ = some (.iface 123 (.int .i64 k)) ∧ Fr [] w w')
    (first | exact ⟨c0, c1, c2, Fr.drewN [] w 1⟩ | assumption)
    (first
      | (go_at_call 117; (with_reducible refine (pfErr_any k _).mono ?_); rintro e w1 ⟨⟨s1, hs1, hne1, rfl⟩, rfl⟩)
      | (go_at_call 96; (with_reducible refine (where_in hp hg hn hm (by assumption)).mono ?_); rintro e w2 ⟨⟨s2, hs2, hne2, rfl⟩, hf2⟩; have hS2 := errText_keep (by assumption) hf2; have k1 : ¬ 9223372036854775807 < s1.size + s2.size := overE hs1 hs2))
  all_goals
    go_wp2_with fail
    go_ret
    exact ⟨⟨_, append_ne hne1, rfl⟩, hS2.2.2.2⟩

end Go.Proofs.YthigfpaajbejdaaDoor
