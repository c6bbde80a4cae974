/-
  plain.fault at an api.Error.
-/
import Derived.Test.YthigfpaajbejdaaGreatDoorFault
namespace Go.Proofs.YthigfpaajbejdaaGreatDoor
open Go.RowKit

def kindAt (k i : Nat) : Int := if k < i then k else -1
theorem kindAt_eq (k : Nat) : kindAt k k = -1 := if_neg (Nat.lt_irrefl k)
theorem kindAt_next {k i : Nat} (h : k ≠ i) : kindAt k (i + 1) = kindAt k i := by
  unfold kindAt
  by_cases h' : k < i
  · rw [if_pos h', if_pos (by omega)]
  · rw [if_neg h', if_neg (by omega)]
theorem kindAt_last {k i : Nat} (h : k < i) : kindAt k i = k := if_pos h

theorem code_index_1 (w : World) : (Instr.index 152 (.agg codeArr) (.int .i64 1)).run Tryz.prog w = .ok (codeV 1) w := by kernel_rfl
theorem code_index_2 (w : World) : (Instr.index 152 (.agg codeArr) (.int .i64 2)).run Tryz.prog w = .ok (codeV 2) w := by kernel_rfl
theorem code_index_3 (w : World) : (Instr.index 152 (.agg codeArr) (.int .i64 3)).run Tryz.prog w = .ok (codeV 3) w := by kernel_rfl
theorem code_index_4 (w : World) : (Instr.index 152 (.agg codeArr) (.int .i64 4)).run Tryz.prog w = .ok (codeV 4) w := by kernel_rfl
theorem code_index_5 (w : World) : (Instr.index 152 (.agg codeArr) (.int .i64 5)).run Tryz.prog w = .ok (codeV 5) w := by kernel_rfl
theorem code_index_6 (w : World) : (Instr.index 152 (.agg codeArr) (.int .i64 6)).run Tryz.prog w = .ok (codeV 6) w := by kernel_rfl
theorem code_index_7 (w : World) : (Instr.index 152 (.agg codeArr) (.int .i64 7)).run Tryz.prog w = .ok (codeV 7) w := by kernel_rfl
theorem code_index_8 (w : World) : (Instr.index 152 (.agg codeArr) (.int .i64 8)).run Tryz.prog w = .ok (codeV 8) w := by kernel_rfl
theorem code_index_9 (w : World) : (Instr.index 152 (.agg codeArr) (.int .i64 9)).run Tryz.prog w = .ok (codeV 9) w := by kernel_rfl
theorem code_index_10 (w : World) : (Instr.index 152 (.agg codeArr) (.int .i64 10)).run Tryz.prog w = .ok (codeV 10) w := by kernel_rfl
theorem code_index_11 (w : World) : (Instr.index 152 (.agg codeArr) (.int .i64 11)).run Tryz.prog w = .ok (codeV 11) w := by kernel_rfl
theorem code_index_12 (w : World) : (Instr.index 152 (.agg codeArr) (.int .i64 12)).run Tryz.prog w = .ok (codeV 12) w := by kernel_rfl
theorem code_index_13 (w : World) : (Instr.index 152 (.agg codeArr) (.int .i64 13)).run Tryz.prog w = .ok (codeV 13) w := by kernel_rfl
theorem code_index_14 (w : World) : (Instr.index 152 (.agg codeArr) (.int .i64 14)).run Tryz.prog w = .ok (codeV 14) w := by kernel_rfl
theorem code_index_15 (w : World) : (Instr.index 152 (.agg codeArr) (.int .i64 15)).run Tryz.prog w = .ok (codeV 15) w := by kernel_rfl
theorem code_index_16 (w : World) : (Instr.index 152 (.agg codeArr) (.int .i64 16)).run Tryz.prog w = .ok (codeV 16) w := by kernel_rfl
theorem code_index (i : Nat) (h0 : 0 < i) (h : i < 17) (w : World) : (Instr.index 152 (.agg codeArr) (.int .i64 i)).run Tryz.prog w = .ok (codeV i) w := by
  match i, h0, h with
  | 1, _, _ => exact code_index_1 w
  | 2, _, _ => exact code_index_2 w
  | 3, _, _ => exact code_index_3 w
  | 4, _, _ => exact code_index_4 w
  | 5, _, _ => exact code_index_5 w
  | 6, _, _ => exact code_index_6 w
  | 7, _, _ => exact code_index_7 w
  | 8, _, _ => exact code_index_8 w
  | 9, _, _ => exact code_index_9 w
  | 10, _, _ => exact code_index_10 w
  | 11, _, _ => exact code_index_11 w
  | 12, _, _ => exact code_index_12 w
  | 13, _, _ => exact code_index_13 w
  | 14, _, _ => exact code_index_14 w
  | 15, _, _ => exact code_index_15 w
  | 16, _, _ => exact code_index_16 w
  | n + 17, _, h => exact absurd h (by omega)

theorem isEmpty_of_ne {s : ByteArray} (h : s ≠ ByteArray.empty) : s.toList.isEmpty = false := by
  rw [ByteArray.toList_eq]
  cases hl : s.data.toList with
  | nil => exact absurd (ByteArray.ext (Array.toList_inj.1 hl)) h
  | cons => rfl

set_option maxRecDepth 100000 in
set_option maxHeartbeats 4000000 in
theorem fault_any (b k : Nat) (n m : Int) (hk : 0 < k) (hk2 : k < 17) (hn : OkN n) (hm : OkN m) (w : World) (hg : Gl w) (he : ErrAt w b n m (codeV k)) :
    Calls Tryz.prog 33 #[.iface 135 (.pointer (some ⟨b, 0, none⟩))] w fun e w' => e = .returned (.agg #[.int .i64 k, .int .i64 n, .int .i64 m]) ∧ Fr [] w w' := by
  have hne := pe_nil
  have em := e_meth
  go_enter Tryz.func33, Tryz.ntmps33
  go_wp2_with fail
  go_loopg [4] 16 (fun g s4 wx => ∃ i : Nat, 0 < i ∧ i ≤ 17 ∧ g = 17 - i ∧ s4 = .int .i64 i ∧ Blk wx w.heap.size #[.int .i64 0, .int .i64 0, .int .i64 0] 23 ∧ Blk wx (w.heap.size + 1) #[.int .i64 (kindAt k i), .int .i64 0, .int .i64 0] 23 ∧ Fr [] w wx)
  case atStart =>
    refine ⟨1, by omega, by omega, rfl, rfl, (Blk.new w _ _).alloc _, ?_, (Fr.alloc [] w _).alloc' _⟩
    rw [show kindAt k 1 = -1 from if_neg (by omega)]
    have := Blk.new (w.alloc (.cells #[.int .i64 0, .int .i64 0, .int .i64 0] 23)) #[.int .i64 (-1), .int .i64 0, .int .i64 0] 23
    simpa using this
  case round =>
    obtain ⟨i, h0, hi, hgk, rfl, hr, hf, hfr⟩ := hrel
    have hwk := he.keep hfr (by simp)
    by_cases hlt : i < 17
    · have hlt1 : (i : Int) < 17 := by omega
      have h01 : (0 : Int) ≤ i := by omega
      have hca := code_index i h0 hlt
      by_cases hki : k = i
      · have hd : decide (k = i) = true := decide_eq_true hki
        rw [show kindAt k i = -1 from hki ▸ kindAt_eq k] at hf
        go_wp2_with (first
          | (go_at_call 65; refine (codes_any _).mono ?_; rintro e w1 ⟨rfl, hf1⟩; have hr1 := hf1.blk hr (by simp); have hb1 := hf1.blk hf (by simp); have hc1 := hb1.cell; have hz1 := hb1.frozen; have he1 := (hwk.keep hf1 (by simp)).2.2)
          | (go_at_call 64; refine (is_code b k i hk2 hlt _ he1).mono ?_; rintro e w2 ⟨rfl, rfl⟩))
        go_roundg (17 - (i + 1))
        case measure => omega
        case rel =>
          refine ⟨i + 1, by omega, by omega, rfl, by simp, ?_, ?_, ?_⟩
          · exact hr1.setO _ (by simp)
          · have := hb1.set 0 (.int .i64 i)
            rw [kindAt_last (by omega : k < i + 1), hki]
            exact this
          · exact (hfr.same hf1).setNew _ (by simp)
      · have hd : decide (k = i) = false := decide_eq_false hki
        go_wp2_with (first
          | (go_at_call 65; refine (codes_any _).mono ?_; rintro e w1 ⟨rfl, hf1⟩; have hr1 := hf1.blk hr (by simp); have hb1 := hf1.blk hf (by simp); have hc1 := hb1.cell; have hz1 := hb1.frozen; have he1 := (hwk.keep hf1 (by simp)).2.2)
          | (go_at_call 64; refine (is_code b k i hk2 hlt _ he1).mono ?_; rintro e w2 ⟨rfl, rfl⟩))
        go_roundg (17 - (i + 1))
        case measure => omega
        case rel =>
          refine ⟨i + 1, by omega, by omega, rfl, by simp, hr1, ?_, hfr.same hf1⟩
          rw [kindAt_next hki]
          exact hb1
    · obtain rfl : i = 17 := by omega
      rw [kindAt_last hk2] at hf
      have hgr := hg.keep hfr (by simp) (by simp)
      go_wp2_with (first
        | (go_at_call 66; refine (As_any b _ (.pointer none) _ (hgr.keep (Fr.alloc [] wr _) (by simp) (by simp)).et (by simpa using Blk.new wr #[_] 135)).mono ?_; rintro e w6 ⟨rfl, hf6, hb6⟩)
        | fail)
      have hblt : b < w.heap.size := World.block_lt_of_cell? w _ he.1
      have hsz : w.heap.size + 1 < wr.heap.size := hf.lt
      have hF6 := (hfr.alloc' (.cells #[.pointer none] 135)).trans hf6 (fun k hk => .inr (by simp at hk; omega))
      have hG6 := hg.keep hF6 (by simp) (by simp)
      obtain ⟨ce0, ce1, ce2⟩ := he.keep hF6 (by simp)
      have hr6 := hf6.blk (hr.alloc _) (by simp; omega)
      have hb7 := hf6.blk (hf.alloc _) (by simp; omega)
      have ct := hb6.cell
      have zt := hb7.frozen
      have cf := hb7.cell
      have n1 : b ≠ w.heap.size + 1 := by omega
      have n2 : wr.heap.size ≠ w.heap.size + 1 := by omega
      have hF8 := ((hF6.setNew (a := ⟨w.heap.size + 1, 1, none⟩) (.int .i64 n) (by simp)).setNew (a := ⟨w.heap.size + 1, 2, none⟩) (.int .i64 m) (by simp)).drew'
      have hB8 := ((hb7.set 1 (.int .i64 n)).set 2 (.int .i64 m)).drewN 1
      have hR8 := ((hr6.setO (a := ⟨w.heap.size + 1, 1, none⟩) (.int .i64 n) (by simp)).setO (a := ⟨w.heap.size + 1, 2, none⟩) (.int .i64 m) (by simp)).drewN 1
      go_region
      go_wp2_with (go_at_call 180; refine (eError_any b k n m hn hm _ (hg.keep hF8 (by simp) (by simp)) (he.keep hF8 (by simp))).mono ?_; rintro e w9 ⟨⟨s, hs, rfl⟩, hf9⟩; have hse := isEmpty_of_ne hs; have hB9 := hf9.blk hB8 (by simp); have hR9 := hf9.blk hR8 (by simp); have hc9 := hB9.cell; have hz9 := hR9.frozen; have hd9 := hR9.cell)
      refine bodyPost_ret (results_cell_row rfl _ _ w.heap.size 23 #[.int .i64 k, .int .i64 n, .int .i64 m] (0, 0) _ rfl (((hR9.set 0 _).set 1 _).set 2 _) Tryz.underlying23 rfl (by kernel_rfl)) rfl ?_
      exact ⟨rfl, (((hF8.same hf9).setNew _ (by simp)).setNew _ (by simp)).setNew _ (by simp)⟩
end Go.Proofs.YthigfpaajbejdaaGreatDoor
