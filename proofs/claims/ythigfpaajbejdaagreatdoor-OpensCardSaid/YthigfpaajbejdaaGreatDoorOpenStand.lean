/-
  What the program's decoder and the document's decoder say of themselves, compared.
-/
import Derived.Test.YthigfpaajbejdaaGreatDoorOpenLaw
namespace Go.Proofs.YthigfpaajbejdaaGreatDoor
open Go.RowKit

/-- A block of nine cells, written anew. -/
theorem blk_set9 {w : World} {b : Nat} {t : TypeId} {a0 a1 a2 a3 a4 a5 a6 a7 a8 : Value} (h : Blk w b #[a0, a1, a2, a3, a4, a5, a6, a7, a8] t) (x0 x1 x2 x3 x4 x5 x6 x7 x8 : Value) : Blk (((((((((w.setCell ⟨b, 0, none⟩ x0).setCell ⟨b, 1, none⟩ x1).setCell ⟨b, 2, none⟩ x2).setCell ⟨b, 3, none⟩ x3).setCell ⟨b, 4, none⟩ x4).setCell ⟨b, 5, none⟩ x5).setCell ⟨b, 6, none⟩ x6).setCell ⟨b, 7, none⟩ x7).setCell ⟨b, 8, none⟩ x8) b #[x0, x1, x2, x3, x4, x5, x6, x7, x8] t := by
  have h1 := h.set 0 x0; rw [show (#[a0, a1, a2, a3, a4, a5, a6, a7, a8]).setIfInBounds 0 x0 = #[x0, a1, a2, a3, a4, a5, a6, a7, a8] from rfl] at h1
  have h2 := h1.set 1 x1; rw [show (#[x0, a1, a2, a3, a4, a5, a6, a7, a8]).setIfInBounds 1 x1 = #[x0, x1, a2, a3, a4, a5, a6, a7, a8] from rfl] at h2
  have h3 := h2.set 2 x2; rw [show (#[x0, x1, a2, a3, a4, a5, a6, a7, a8]).setIfInBounds 2 x2 = #[x0, x1, x2, a3, a4, a5, a6, a7, a8] from rfl] at h3
  have h4 := h3.set 3 x3; rw [show (#[x0, x1, x2, a3, a4, a5, a6, a7, a8]).setIfInBounds 3 x3 = #[x0, x1, x2, x3, a4, a5, a6, a7, a8] from rfl] at h4
  have h5 := h4.set 4 x4; rw [show (#[x0, x1, x2, x3, a4, a5, a6, a7, a8]).setIfInBounds 4 x4 = #[x0, x1, x2, x3, x4, a5, a6, a7, a8] from rfl] at h5
  have h6 := h5.set 5 x5; rw [show (#[x0, x1, x2, x3, x4, a5, a6, a7, a8]).setIfInBounds 5 x5 = #[x0, x1, x2, x3, x4, x5, a6, a7, a8] from rfl] at h6
  have h7 := h6.set 6 x6; rw [show (#[x0, x1, x2, x3, x4, x5, a6, a7, a8]).setIfInBounds 6 x6 = #[x0, x1, x2, x3, x4, x5, x6, a7, a8] from rfl] at h7
  have h8 := h7.set 7 x7; rw [show (#[x0, x1, x2, x3, x4, x5, x6, a7, a8]).setIfInBounds 7 x7 = #[x0, x1, x2, x3, x4, x5, x6, x7, a8] from rfl] at h8
  have h9 := h8.set 8 x8; rw [show (#[x0, x1, x2, x3, x4, x5, x6, x7, a8]).setIfInBounds 8 x8 = #[x0, x1, x2, x3, x4, x5, x6, x7, x8] from rfl] at h9
  exact h9
theorem fr_set9 {w0 w : World} {b : Nat} (h : Fr [] w0 w) (hb : w0.heap.size ≤ b) (x0 x1 x2 x3 x4 x5 x6 x7 x8 : Value) : Fr [] w0 (((((((((w.setCell ⟨b, 0, none⟩ x0).setCell ⟨b, 1, none⟩ x1).setCell ⟨b, 2, none⟩ x2).setCell ⟨b, 3, none⟩ x3).setCell ⟨b, 4, none⟩ x4).setCell ⟨b, 5, none⟩ x5).setCell ⟨b, 6, none⟩ x6).setCell ⟨b, 7, none⟩ x7).setCell ⟨b, 8, none⟩ x8) :=
  ((((((((h.setNew x0 hb).setNew x1 hb).setNew x2 hb).setNew x3 hb).setNew x4 hb).setNew x5 hb).setNew x6 hb).setNew x7 hb).setNew x8 hb
section
variable {tv : Nat} {w : World} {pb db rb bs hb sb : Nat} {k0 k1 k2 : Value} {i : Nat → Int} {sm : ByteArray} {fr at_ : Int}
/-- What a decoder says of itself. -/
def infoV (i : Nat → Int) (sm : ByteArray) : Array Value := #[.int .i64 (i 0), .int .i64 (i 1), .int .i64 (i 2), .int .i64 (i 3), .int .i64 (i 4), .int .i64 (i 5), .int .i64 (i 6), .int .i64 (i 7), .string sm]
set_option maxRecDepth 100000 in
set_option maxHeartbeats 2000000 in
theorem fInfo_any (hd : DecF tv w db rb hb k0 k1 k2 i sm fr at_) : Calls Tryz.prog 199 #[.pointer (some ⟨db, 0, none⟩)] w fun ev w' => ev = .returned (.agg (infoV i sm)) ∧ Fr [] w w' := by
  have hF0 := Fr.alloc [] w (.cells #[.int .i64 0, .int .i64 0, .int .i64 0, .int .i64 0, .int .i64 0, .int .i64 0, .int .i64 0, .int .i64 0, .string ⟨#[]⟩] 73)
  have hc := (hF0.blk hd.blk (by simp)).cell
  clear hF0
  unfold infoV
  go_enter Tryz.func199, Tryz.ntmps199
  go_wp2_with fail
  refine bodyPost_ret (results_cell_row rfl _ _ w.heap.size 73 (infoV i sm) (0, 0) _ rfl (heap_alloc_new w _) Tryz.underlying73 rfl (by kernel_rfl)) rfl ?_
  exact ⟨rfl, Fr.alloc [] w _⟩
theorem fAt_any (hd : DecF tv w db rb hb k0 k1 k2 i sm fr at_) : Calls Tryz.prog 198 #[.pointer (some ⟨db, 0, none⟩)] w fun ev w' => ev = .returned (.int .i64 at_) ∧ w = w' := by
  have hc := hd.blk.cell
  go_enter Tryz.func198, Tryz.ntmps198
  go_wp2_with fail
  go_ret
  exact ⟨rfl, rfl⟩
set_option maxRecDepth 100000 in
set_option maxHeartbeats 2000000 in
theorem dInfo_any (hp : Blk w pb #[.iface 176 (.pointer (some ⟨db, 0, none⟩)), .pointer (some ⟨bs, 0, none⟩)] 107) (hd : DecF tv w db rb hb k0 k1 k2 i sm fr at_) :
    Calls Tryz.prog 29 #[.pointer (some ⟨pb, 0, none⟩)] w fun ev w' => ev = .returned (.agg (infoV i sm)) ∧ Fr [] w w' := by
  have hm : ∀ (a : Addr) (w : World), (Go.method 464 176 (.pointer (some a)) "Info").run Tryz.prog w = .ok (199, .pointer (some a)) w := fun a w => by kernel_rfl
  have hcl := fun W (hW : Fr [] w W) => Hid.mk2 (fInfo_any (w := W) (tv := tv) (db := db) (rb := rb) (hb := hb) (k0 := k0) (k1 := k1) (k2 := k2) (i := i) (sm := sm) (fr := fr) (at_ := at_) (hW.blk hd.blk (by simp)))
  have hF0 := Fr.alloc [] w (.cells #[.int .i64 0, .int .i64 0, .int .i64 0, .int .i64 0, .int .i64 0, .int .i64 0, .int .i64 0, .int .i64 0, .string ⟨#[]⟩] 73)
  have hc := (hF0.blk hp (by simp)).cell
  have hb0 := Blk.new w #[.int .i64 0, .int .i64 0, .int .i64 0, .int .i64 0, .int .i64 0, .int .i64 0, .int .i64 0, .int .i64 0, .string ⟨#[]⟩] 73
  unfold infoV at *
  go_enter Tryz.func29, Tryz.ntmps29
  go_wp2_with (go_at_call 199; (with_reducible refine ((hcl _ hF0).out).mono ?_); rintro e w1 ⟨rfl, hf1⟩; have hb1 := hf1.blk hb0 (by simp); have hc1 := hb1.cell; have hz1 := hb1.frozen)
  refine bodyPost_ret (results_cell_row rfl _ _ w.heap.size 73 (infoV i sm) (0, 0) _ rfl (blk_set9 hb1 _ _ _ _ _ _ _ _ _) Tryz.underlying73 rfl (by kernel_rfl)) rfl ?_
  exact ⟨rfl, fr_set9 (hF0.same hf1) (Nat.le_refl _) _ _ _ _ _ _ _ _ _⟩
theorem dAt_any (hp : Blk w pb #[.iface 176 (.pointer (some ⟨db, 0, none⟩)), .pointer (some ⟨bs, 0, none⟩)] 107) (hd : DecF tv w db rb hb k0 k1 k2 i sm fr at_) :
    Calls Tryz.prog 49 #[.pointer (some ⟨pb, 0, none⟩)] w fun ev w' => ev = .returned (.int .i64 at_) ∧ w = w' := by
  have hm : ∀ (a : Addr) (w : World), (Go.method 464 176 (.pointer (some a)) "At").run Tryz.prog w = .ok (198, .pointer (some a)) w := fun a w => by kernel_rfl
  have hc := hp.cell
  go_enter Tryz.func49, Tryz.ntmps49
  go_wp2_with (go_at_call 198; (with_reducible refine (fAt_any hd).mono ?_); rintro e w1 ⟨rfl, rfl⟩)
  go_ret
  exact ⟨rfl, rfl⟩
theorem dOdd_any {B : Nat} {c : Cfg} {pos left k : Nat} (hp : Blk w pb #[.iface 176 (.pointer (some ⟨db, 0, none⟩)), .pointer (some ⟨bs, 0, none⟩)] 107) (hs : SrcI B w bs c pos left k) :
    Calls Tryz.prog 50 #[.pointer (some ⟨pb, 0, none⟩)] w fun ev w' => ev = .returned (.bool false) ∧ w = w' := by
  have hc := hp.cell
  obtain ⟨a, cap, hb, _⟩ := hs.row
  have hc2 := hb.cell
  go_enter Tryz.func50, Tryz.ntmps50
  go_wp2
  go_ret
  exact ⟨rfl, rfl⟩
set_option maxRecDepth 100000 in
set_option maxHeartbeats 4000000 in
theorem stands_any {B : Nat} {c : Cfg} {pos left k rdb : Nat} (hp : Blk w pb #[.iface 176 (.pointer (some ⟨db, 0, none⟩)), .pointer (some ⟨bs, 0, none⟩)] 107) (hs : SrcI B w bs c pos left k) (hd : DecF tv w db rb hb k0 k1 k2 i sm fr at_) (hr : DecR w rdb sb i sm at_) :
    Calls Tryz.prog 20 #[.pointer (some ⟨pb, 0, none⟩), .pointer (some ⟨rdb, 0, none⟩)] w fun ev w' => ev = .returned (.bool true) ∧ Fr [] w w' := by
  have hk1 := fun W (hW : Fr [] w W) => Hid.mk2 (dAt_any (w := W) (tv := tv) (pb := pb) (db := db) (rb := rb) (bs := bs) (hb := hb) (k0 := k0) (k1 := k1) (k2 := k2) (i := i) (sm := sm) (fr := fr) (at_ := at_) (hW.blk hp (by simp)) (hW.blk hd.blk (by simp)))
  have hk2 := fun W (hW : Fr [] w W) => Hid.mk2 (dOdd_any (w := W) (pb := pb) (db := db) (bs := bs) (B := B) (c := c) (hW.blk hp (by simp)) (hs.keep hW (by simp) (by simp)))
  have hk0 := Hid.mk2 (dInfo_any hp hd)
  have hr' := Hid.mk2 hr.blk
  unfold infoV at hk0
  generalize i 0 = x0 at *
  generalize i 1 = x1 at *
  generalize i 2 = x2 at *
  generalize i 3 = x3 at *
  generalize i 4 = x4 at *
  generalize i 5 = x5 at *
  generalize i 6 = x6 at *
  generalize i 7 = x7 at *
  clear hp hs hd hr
  go_enter Tryz.func20, Tryz.ntmps20
  go_wp2_with (first
    | (go_at_call 29; (with_reducible refine ((hk0).out).mono ?_); rintro e w1 ⟨rfl, hf1⟩; have hf2 := hf1.alloc' (.cells #[.int .i64 x0, .int .i64 x1, .int .i64 x2, .int .i64 x3, .int .i64 x4, .int .i64 x5, .int .i64 x6, .int .i64 x7, .string sm] 73))
    | (go_at_call 49; (with_reducible refine ((hk1 _ hf2).out).mono ?_); rintro e w2 ⟨rfl, rfl⟩)
    | (go_at_call 50; (with_reducible refine ((hk2 _ hf2).out).mono ?_); rintro e w2 ⟨rfl, rfl⟩;
       have hm1 := hf2.blk hr'.out (by simp); have hm2 := hm1.alloc (.cells #[.int .i64 x0, .int .i64 x1, .int .i64 x2, .int .i64 x3, .int .i64 x4, .int .i64 x5, .int .i64 x6, .int .i64 x7, .string sm] 108); have hc1 := hm1.cell; have hc2 := hm2.cell;
       have hi := ((Blk.new w1 #[.int .i64 x0, .int .i64 x1, .int .i64 x2, .int .i64 x3, .int .i64 x4, .int .i64 x5, .int .i64 x6, .int .i64 x7, .string sm] 73).alloc (.cells #[.int .i64 x0, .int .i64 x1, .int .i64 x2, .int .i64 x3, .int .i64 x4, .int .i64 x5, .int .i64 x6, .int .i64 x7, .string sm] 108)).cell;
       have hj := (Blk.new (w1.alloc (.cells #[.int .i64 x0, .int .i64 x1, .int .i64 x2, .int .i64 x3, .int .i64 x4, .int .i64 x5, .int .i64 x6, .int .i64 x7, .string sm] 73)) #[.int .i64 x0, .int .i64 x1, .int .i64 x2, .int .i64 x3, .int .i64 x4, .int .i64 x5, .int .i64 x6, .int .i64 x7, .string sm] 108).cell))
  go_ret
  exact ⟨rfl, hf2.alloc' _⟩
end
end Go.Proofs.YthigfpaajbejdaaGreatDoor
