/-
  check.New and frame.KitOf, walked.
-/
import Derived.Test.YthigfpaajbejdaaDoorHashSum
import Derived.Test.YthigfpaajbejdaaDoorNewTab
import Derived.Laws.EntriesVeiled
namespace Go.Proofs.YthigfpaajbejdaaDoor
open Go.RowKit

theorem hNew_any (w : World) : Calls Tryd.prog 27 #[] w fun e w' => e = .returned (.pointer (some ⟨w.heap.size, 0, none⟩)) ∧ HashB w' w.heap.size Md.start (.slice none 0 0) (.int .u64 0) ∧ Fr [] w w' := by
  go_enter Tryd.func27, Tryd.ntmps27
  go_wp2_with fail
  go_ret
  exact ⟨rfl, Blk.new w _ _, Fr.alloc [] w _⟩

theorem frs3 (b : Nat) (w : World) (i j k : Nat) (u x y : Value) : Fr [b] w (((w.setCell ⟨b, i, none⟩ u).setCell ⟨b, j, none⟩ x).setCell ⟨b, k, none⟩ y) :=
  (((Fr.refl [b] w).set' (a := ⟨b, i, none⟩) u (List.mem_singleton.2 rfl)).set' (a := ⟨b, j, none⟩) x (List.mem_singleton.2 rfl)).set' (a := ⟨b, k, none⟩) y (List.mem_singleton.2 rfl)
theorem kitOf_slow (w : World) : Calls Tryd.prog 26 #[.int .i64 0] w fun e w' => e = .returned (.agg #[.func (Fn.func 42) #[] #[], .func (Fn.func 43) #[] #[], .func (Fn.func 44) #[] #[]]) ∧ Fr [] w w' := by
  go_enter Tryd.func26, Tryd.ntmps26
  go_wp2_with fail
  refine bodyPost_ret (results_cell_row rfl _ _ w.heap.size 83 #[.func (Fn.func 42) #[] #[], .func (Fn.func 43) #[] #[], .func (Fn.func 44) #[] #[]] (0, 0) _ rfl (heap_alloc_new w _) Tryd.underlying83 rfl (by kernel_rfl)) rfl ?_
  exact ⟨rfl, Fr.alloc [] w _⟩
theorem kitOf_fast (w : World) : Calls Tryd.prog 26 #[.int .i64 1] w fun e w' => ∃ tb, e = .returned (.agg #[.func (Fn.func 39) #[.pointer (some ⟨tb, 0, none⟩)] #[], .func (Fn.func 40) #[.pointer (some ⟨tb, 0, none⟩)] #[], .func (Fn.func 41) #[] #[]]) ∧ TabP w' tb ∧ w.heap.size ≤ tb ∧ Fr [] w w' := by
  have hmf : ∀ (fn : Fn) (first cap : Array Value) (w : World), (Instr.makeFunc fn first cap).run Tryd.prog w = .ok (.func fn first cap) w := fun _ _ _ _ => rfl
  have hb0 := Blk.new w #[.nilFunc, .nilFunc, .nilFunc] 83
  have hF0 := Fr.alloc [] w (.cells #[.nilFunc, .nilFunc, .nilFunc] 83)
  go_enter Tryd.func26, Tryd.ntmps26
  go_wp2_with (go_at_call 38; (with_reducible refine (newTables_any _).mono ?_); rintro e w1 ⟨rfl, ht, hf1⟩; have hb1 := hf1.blk hb0 (by simp); have hc1 := hb1.cell; have hz1 := hb1.frozen)
  refine bodyPost_ret (results_cell_row rfl _ _ w.heap.size 83 #[.func (Fn.func 39) #[.pointer (some ⟨w.heap.size + 1, 0, none⟩)] #[], .func (Fn.func 40) #[.pointer (some ⟨w.heap.size + 1, 0, none⟩)] #[], .func (Fn.func 41) #[] #[]] (0, 0) _ rfl (((hb1.set 0 _).set 1 _).set 2 _) Tryd.underlying83 rfl (by kernel_rfl)) rfl ?_
  have hsz : (w.alloc (.cells #[.nilFunc, .nilFunc, .nilFunc] 83)).heap.size = w.heap.size + 1 := by simp
  rw [hsz] at ht
  exact ⟨w.heap.size + 1, rfl, ht.keep (frs3 w.heap.size w1 0 1 2 _ _ _) (by simp), by omega, (hF0.same hf1).trans (frs3 w.heap.size w1 0 1 2 _ _ _) (fun x hx => .inr (by rw [List.mem_singleton] at hx; omega))⟩
end Go.Proofs.YthigfpaajbejdaaDoor
