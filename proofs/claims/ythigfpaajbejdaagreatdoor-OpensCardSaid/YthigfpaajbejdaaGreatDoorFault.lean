/-
  plain.fault at the program's own errors.
-/
import Derived.Test.YthigfpaajbejdaaGreatDoorErrOf
import Derived.Deep.LoopGhost
import Derived.Laws.Rows
namespace Go.Proofs.YthigfpaajbejdaaGreatDoor
open Go.RowKit

/-- The sixteen errors, by their numbers. -/
def codeT (i : Nat) : Nat := if i < 16 then 138 else 202
def codeN (i : Nat) : Int := if i < 16 then i else 1
def codeV (i : Nat) : Value := .iface (codeT i) (.int .i64 (codeN i))
def codeArr : Array Value := #[.nilIface, codeV 1, codeV 2, codeV 3, codeV 4, codeV 5, codeV 6, codeV 7, codeV 8, codeV 9, codeV 10, codeV 11, codeV 12, codeV 13, codeV 14, codeV 15, codeV 16]
theorem codeArr_at (i : Nat) (h : 0 < i) (h2 : i < 17) : codeArr[i]? = some (codeV i) := by
  have : ∀ i, i < 17 → 0 < i → codeArr[i]? = some (codeV i) := by
    intro i hi h0
    match i, hi, h0 with
    | 1, _, _ | 2, _, _ | 3, _, _ | 4, _, _ | 5, _, _ | 6, _, _ | 7, _, _ | 8, _, _ | 9, _, _ | 10, _, _ | 11, _, _ | 12, _, _ | 13, _, _ | 14, _, _ | 15, _, _ | 16, _, _ => rfl
    | n + 17, h, _ => exact absurd h (by omega)
  exact this i h2 h
theorem code_leaf (i : Nat) : ∃ h, Leaf (codeV i) h := by
  unfold codeV codeT codeN
  by_cases h : i < 16
  · rw [if_pos h, if_pos h]; exact ⟨_, leaf_failure _⟩
  · rw [if_neg h, if_neg h]; exact ⟨_, leaf_pfailure _⟩
theorem code_eq (i j : Nat) (hi : i < 17) (hj : j < 17) : EqV (codeV i) (codeV j) (decide (i = j)) := by
  unfold codeV codeT codeN
  by_cases h : i < 16
  · by_cases h' : j < 16
    · rw [if_pos h, if_pos h, if_pos h', if_pos h']
      have := eq_ff i j
      by_cases hij : i = j
      · subst hij; simpa using this
      · have e : ((i : Int) == (j : Int)) = false := by simp; omega
        rw [e] at this; simpa [hij] using this
    · rw [if_pos h, if_pos h, if_neg h', if_neg h']
      have e : decide (i = j) = false := by simp; omega
      rw [e]; exact eq_fp _ _
  · by_cases h' : j < 16
    · rw [if_neg h, if_neg h, if_pos h', if_pos h']
      have e : decide (i = j) = false := by simp; omega
      rw [e]; exact eq_pf _ _
    · rw [if_neg h, if_neg h, if_neg h', if_neg h']
      have e : i = j := by omega
      subst e
      have := eq_pp 1 1
      simpa using this
theorem code_pe (a : Addr) (i : Nat) : EqV (.iface 135 (.pointer (some a))) (codeV i) false := by
  unfold codeV codeT codeN
  by_cases h : i < 16
  · rw [if_pos h, if_pos h]; exact pe_f a _
  · rw [if_neg h, if_neg h]; exact pe_p a _

set_option maxHeartbeats 1000000 in
theorem codes_any (w : World) : Calls Tryz.prog 65 #[] w fun e w' => e = .returned (.agg codeArr) ∧ Fr [] w w' := by
  go_enter Tryz.func65, Tryz.ntmps65
  go_wp2_with fail
  refine bodyPost_ret (results_cell_row rfl _ _ w.heap.size 152 codeArr (0, 0) _ rfl (heap_alloc_new w _) Tryz.underlying152 rfl (by kernel_rfl)) rfl ?_
  exact ⟨rfl, Fr.alloc [] w _⟩
theorem is_code (b k i : Nat) (hk : k < 17) (hi : i < 17) (w : World) (hc : w.cell? ⟨b, 2, none⟩ = some (codeV k)) :
    Calls Tryz.prog 64 #[.iface 135 (.pointer (some ⟨b, 0, none⟩)), codeV i] w fun e w' => e = .returned (.bool (decide (k = i))) ∧ w = w' := by
  obtain ⟨h1, hl⟩ := code_leaf k
  obtain ⟨h2, ht⟩ := code_leaf i
  exact Is_wrapped b _ _ _ _ h1 h2 _ hl ht (code_eq k i hk hi) (code_pe _ i) w hc

theorem As_any (e tb : Nat) (old : Value) (w : World) (hg : w.cell? ⟨0, 0, none⟩ = some (.iface 262 (.agg #[.pointer (some ⟨9, 81, none⟩)]))) (hb : Blk w tb #[old] 135) :
    Calls Tryz.prog 66 #[.iface 135 (.pointer (some ⟨e, 0, none⟩)), .iface 155 (.pointer (some ⟨tb, 0, none⟩))] w fun ev w' => ev = .returned (.bool true) ∧ Fr [tb] w w' ∧ Blk w' tb #[.pointer (some ⟨e, 0, none⟩)] 135 := by
  refine (as_hit ⟨e, 0, none⟩ ⟨tb, 0, none⟩ old w hg ?_ ?_).mono ?_
  · rw [hb.cell]; rfl
  · rw [hb.frozen]
  · rintro ev w' ⟨rfl, rfl⟩
    refine ⟨rfl, ?_, ?_⟩
    · exact ((((Fr.alloc _ w _).alloc' _).alloc' _).alloc' _).set' _ (by simp)
    · exact ((((hb.alloc _).alloc _).alloc _).alloc _).set 0 _

/-- What errors.As and the numbers' text read of the package variables. -/
structure Gl (w : World) : Prop where
  pow : Pow w
  powlt : 3 < w.heap.size
  et : w.cell? ⟨0, 0, none⟩ = some (.iface 262 (.agg #[.pointer (some ⟨9, 81, none⟩)]))
theorem Gl.keep {S : List Nat} {w w' : World} (h : Gl w) (hf : Fr S w w') (h1 : 3 ∉ S) (h2 : 0 ∉ S) : Gl w' :=
  ⟨h.pow.keep hf h1, Nat.lt_of_lt_of_le h.powlt hf.size, hf.cell h.et h2⟩

theorem eError_any (b k : Nat) (n m : Int) (hn : OkN n) (hm : OkN m) (w : World) (hg : Gl w) (he : ErrAt w b n m (codeV k)) :
    Calls Tryz.prog 180 #[.pointer (some ⟨b, 0, none⟩)] w fun e w' => (∃ s : ByteArray, s ≠ ByteArray.empty ∧ e = .returned (.string s)) ∧ Fr [] w w' := by
  unfold codeV codeT codeN at he
  by_cases h : k < 16
  · rw [if_pos h, if_pos h] at he; exact eError_f b _ n m hn hm w hg.pow hg.powlt he
  · rw [if_neg h, if_neg h] at he; exact eError_p b _ n m hn hm w hg.pow hg.powlt he

/-- plain.fault of nil. -/
theorem fault_nil (w : World) : Calls Tryz.prog 33 #[.nilIface] w fun e w' => e = .returned (.agg #[.int .i64 0, .int .i64 0, .int .i64 0]) ∧ Fr [] w w' := by
  go_enter Tryz.func33, Tryz.ntmps33
  go_wp2_with fail
  refine bodyPost_ret (results_cell_row rfl _ _ w.heap.size 23 #[.int .i64 0, .int .i64 0, .int .i64 0] (0, 0) _ rfl (heap_alloc_new w _) Tryz.underlying23 rfl (by kernel_rfl)) rfl ?_
  exact ⟨rfl, Fr.alloc [] w _⟩

end Go.Proofs.YthigfpaajbejdaaGreatDoor
