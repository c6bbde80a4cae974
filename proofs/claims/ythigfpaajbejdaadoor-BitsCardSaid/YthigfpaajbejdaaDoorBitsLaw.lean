/-
  flacpairlaw.Bits, walked: it answers true.
-/
import Derived.Test.YthigfpaajbejdaaDoorNewBits
import Derived.Test.YthigfpaajbejdaaDoorAsk
import Derived.Test.YthigfpaajbejdaaDoorRefOf
namespace Go.Proofs.YthigfpaajbejdaaDoor
open Go.RowKit

set_option maxHeartbeats 400000 in
theorem lawSmall_any (s : ByteArray) (a1 a2 : Option Addr) (l1 c1 l2 c2 : Nat) (w : World) :
    Calls Tryd.prog 5 #[.string s, .slice a1 l1 c1, .slice a2 l2 c2] w fun e w' => e = .returned (.bool (decide (s.size ≤ 1048576 ∧ l1 ≤ 1048576 ∧ l2 ≤ 1048576))) ∧ w = w' := by
  by_cases h1 : s.size ≤ 1048576
  · by_cases h2 : l1 ≤ 1048576
    · by_cases h3 : l2 ≤ 1048576
      · have g1 : (s.size : Int) ≤ 1048576 := by omega
        have g2 : (l1 : Int) ≤ 1048576 := by omega
        have g3 : (l2 : Int) ≤ 1048576 := by omega
        rw [decide_eq_true (show s.size ≤ 1048576 ∧ l1 ≤ 1048576 ∧ l2 ≤ 1048576 from ⟨h1, h2, h3⟩)]
        go_enter Tryd.func5, Tryd.ntmps5
        go_wp2_with fail
        go_ret
        exact ⟨rfl, rfl⟩
      · have g1 : (s.size : Int) ≤ 1048576 := by omega
        have g2 : (l1 : Int) ≤ 1048576 := by omega
        have g3 : ¬ (l2 : Int) ≤ 1048576 := by omega
        rw [decide_eq_false (show ¬ (s.size ≤ 1048576 ∧ l1 ≤ 1048576 ∧ l2 ≤ 1048576) from fun h => h3 h.2.2)]
        go_enter Tryd.func5, Tryd.ntmps5
        go_wp2_with fail
        go_ret
        exact ⟨rfl, rfl⟩
    · have g1 : (s.size : Int) ≤ 1048576 := by omega
      have g2 : ¬ (l1 : Int) ≤ 1048576 := by omega
      rw [decide_eq_false (show ¬ (s.size ≤ 1048576 ∧ l1 ≤ 1048576 ∧ l2 ≤ 1048576) from fun h => h2 h.2.1)]
      go_enter Tryd.func5, Tryd.ntmps5
      go_wp2_with fail
      go_ret
      exact ⟨rfl, rfl⟩
  · have g1 : ¬ (s.size : Int) ≤ 1048576 := by omega
    rw [decide_eq_false (show ¬ (s.size ≤ 1048576 ∧ l1 ≤ 1048576 ∧ l2 ≤ 1048576) from fun h => h1 h.1)]
    go_enter Tryd.func5, Tryd.ntmps5
    go_wp2_with fail
    go_ret
    exact ⟨rfl, rfl⟩

set_option maxHeartbeats 400000 in
theorem pOdd_any {q : Bool} {B : Nat} {w : World} {pb tb rb bs : Nat} {c : Cfg} {p : Nat} {S : List Nat} (h : PB q B pb tb rb bs c w p S) :
    Calls Tryd.prog 12 #[.pointer (some ⟨pb, 0, none⟩)] w fun e w' => e = .returned (.bool false) ∧ w = w' := by
  have hc := h.blk.cell
  obtain ⟨pos, left, k, hs⟩ := h.rd.src
  obtain ⟨a, cap, hb, _⟩ := hs.row
  have hc2 := hb.cell
  go_enter Tryd.func12, Tryd.ntmps12
  go_wp2
  go_ret
  exact ⟨rfl, rfl⟩

theorem glB {w : World} (hg : Gl w) : GlB w.heap.size w := ⟨hg, hg.powlt, World.block_lt_of_cell? w _ hg.et⟩

/-- The ops, where the caller has them. -/
structure Ops (B : Nat) (w : World) (a : Option Addr) (n : Nat) : Prop where
  cell : ∀ i, i < n → ∃ b off z, a = some ⟨b, off, none⟩ ∧ b < B ∧ w.cell? ⟨b, off + i, none⟩ = some (.int .i64 z)

set_option maxRecDepth 100000 in
set_option maxHeartbeats 1000000 in
theorem bits_big (s : ByteArray) (a1 a2 : Option Addr) (l1 c1 l2 c2 : Nat) (br kind : Int) (w : World) (hbig : ¬ (s.size ≤ 1048576 ∧ l1 ≤ 1048576 ∧ l2 ≤ 1048576)) :
    Calls Tryd.prog 4 #[.string s, .slice a1 l1 c1, .int .i64 br, .int .i64 kind, .slice a2 l2 c2] w fun e w' => e = .returned (.bool true) ∧ Fr [] w w' := by
  have hcall := lawSmall_any s a1 a2 l1 c1 l2 c2 w
  rw [decide_eq_false hbig] at hcall
  clear hbig
  go_enter Tryd.func4, Tryd.ntmps4
  go_wp2_with (go_at_call 5; refine hcall.mono ?_; rintro e w1 ⟨rfl, rfl⟩)
  go_ret
  exact ⟨rfl, Fr.refl _ _⟩
set_option maxRecDepth 100000 in
set_option maxHeartbeats 1000000 in
theorem bits_no (s : ByteArray) (a1 a2 : Option Addr) (l1 c1 l2 c2 : Nat) (br kind : Int) (w : World) (hg : Gl w) (h0 : kind ≠ 0) (h1 : kind ≠ 1) (hfit : s.size ≤ 1048576 ∧ l1 ≤ 1048576 ∧ l2 ≤ 1048576) :
    Calls Tryd.prog 4 #[.string s, .slice a1 l1 c1, .int .i64 br, .int .i64 kind, .slice a2 l2 c2] w fun e w' => e = .returned (.bool true) ∧ Fr [] w w' := by
  have hcall := lawSmall_any s a1 a2 l1 c1 l2 c2 w
  rw [decide_eq_true hfit] at hcall
  have e0 : (kind == 0) = false := by simpa using h0
  have e1 : (kind == 1) = false := by simpa using h1
  have e2 : (kind != 0) = true := by simpa using h0
  have e3 : (kind != 1) = true := by simpa using h1
  clear hfit
  go_enter Tryd.func4, Tryd.ntmps4
  go_wp2_with (first
    | (go_at_call 5; refine hcall.mono ?_; rintro e w1 ⟨rfl, rfl⟩)
    | (go_at_call 9; refine (NewBits_no _ h0 h1 _ hg).mono ?_; rintro e w2 ⟨rfl, hf2⟩; have hk2 := (Blk.new w2 #[.int .i64 15, .int .i64 (-1), .int .i64 0] 24).cell))
  go_ret
  exact ⟨rfl, hf2.alloc' _⟩

set_option maxRecDepth 100000 in
set_option maxHeartbeats 2000000 in
theorem bits_s {w : World} {c : Cfg} {a1 a2 : Option Addr} {c1 l2 c2 : Nat} (hg : Gl w) (hP : Pcs w.heap.size w a1 c.ps) (hO : Ops w.heap.size w a2 l2) (hfit : c.text.size ≤ 1048576 ∧ c.ps.length ≤ 1048576 ∧ l2 ≤ 1048576) (hbb : -9223372036854775808 ≤ c.broken ∧ c.broken ≤ 9223372036854775807) :
    Calls Tryd.prog 4 #[.string c.text, .slice a1 c.ps.length c1, .int .i64 c.broken, .int .i64 0, .slice a2 l2 c2] w fun e w' => e = .returned (.bool true) ∧ Fr [] w w' := by
  have hcall := lawSmall_any c.text a1 a2 c.ps.length c1 l2 c2 w
  rw [decide_eq_true hfit] at hcall
  have hl2 : l2 ≤ 1048576 := hfit.2.2
  have hlen : c.len ≤ 1048576 := hfit.1
  have hglb := glB hg
  have hnew := newBits_s (cap := c1) hP (Nat.le_refl _) hlen hbb
  have hof : ∀ W, Fr [] w W → Calls Tryd.prog 10 #[.string c.text, .slice a1 c.ps.length c1, .int .i64 c.broken] W (OfPost W c) := fun W hW => of_any (hP.keep hW (by simp)) hlen
  have hof' := Hid.mk hof
  have hbb' := Hid.mk hbb
  obtain ⟨B, hB⟩ : ∃ B, B = w.heap.size := ⟨_, rfl⟩
  rw [← hB] at hnew hglb hO
  have hB' := Hid.mk hB
  generalize c.ps.length = cl at *
  clear hfit hof hbb hlen hB
  go_enter Tryd.func4, Tryd.ntmps4
  go_wp2_with (first
    | (go_at_call 5; refine hcall.mono ?_; rintro e w1 ⟨rfl, rfl⟩)
    | (go_at_call 9; refine hnew.mono ?_; rintro e w2 ⟨pb, tb, rb, bs, S, rfl, hpb, hf2, hS2, hpb2, htb2⟩; have hf3 := hf2.alloc' (.cells #[.int .i64 0, .int .i64 0, .int .i64 0] 24); have hpb3 := hpb.still (Fr.alloc [] w2 (.cells #[.int .i64 0, .int .i64 0, .int .i64 0] 24)))
    | (go_at_call 10; refine (hof'.out _ hf3).mono ?_; rintro e w4 ⟨rfl, hsb, hf4⟩))
  have hsz : (w2.alloc (.cells #[.int .i64 0, .int .i64 0, .int .i64 0] 24)).heap.size = w2.heap.size + 1 := by simp
  rw [hsz] at hsb
  have hall := hpb.rd.all
  have hB0 : Both false B pb tb rb bs (w2.heap.size + 1) c w4 0 S :=
    ⟨hpb3.still hf4, hsb, fun hx => by have := (hall _ hx).2; omega, hglb.keep (hf3.same hf4) (by simp), by rw [hB'.out]; have := hf2.size; omega⟩
  have hF0 : Fr [] w w4 := hf3.same hf4
  have hB0' := Hid.mk hB0
  clear hB0 hsb hall hpb3 hf3 hpb hS2 hpb2 htb2 hsz hcall hnew
  generalize w2.heap.size + 1 = sb at *
  go_loopg [15] l2 (fun g s15 wx => ∃ (k p : Nat) (S : List Nat), g = l2 - k ∧ k ≤ l2 ∧ s15 = .int .i64 k ∧ Hid (Both false B pb tb rb bs sb c wx p S) ∧ Fr [] w wx)
  case atStart => exact ⟨0, 0, S, rfl, Nat.zero_le _, rfl, hB0', hF0⟩
  case round =>
    obtain ⟨k, p, S1, hg1, hk, rfl, hB1, hF1⟩ := hrel
    have hG := Hid.mk hg1
    clear hg1
    by_cases hlt : k < l2
    · have hlt' : (k : Int) < (l2 : Int) := by omega
      obtain ⟨b, off, z, rfl, hb, hcell⟩ := hO.cell k hlt
      have hcx := hF1.cell hcell (by simp)
      go_wp2_with (go_at_call 11; refine (asked_any hB1.out z).mono ?_; rintro e w5 ⟨rfl, p5, S5, hf5, hB5, hx5⟩)
      go_roundg (l2 - (k + 1))
      case measure => have := hG.out; omega
      case rel =>
        refine ⟨k + 1, p5, S5, rfl, by omega, by go_num, hB5, hF1.trans hf5 (fun x hx => .inr ?_)⟩
        rw [← hB'.out]
        rcases List.mem_cons.1 hx with rfl | hx
        · exact hB1.out.ab
        · exact (hB1.out.rdr.rd.all x hx).1
    · obtain rfl : k = l2 := by omega
      have hlt' : ¬ (k : Int) < (k : Int) := by omega
      go_wp2_with (go_at_call 12; refine (pOdd_any hB1.out.rdr).mono ?_; rintro e w5 ⟨rfl, rfl⟩)
      go_ret
      exact ⟨rfl, hF1⟩

set_option maxRecDepth 100000 in
set_option maxHeartbeats 2000000 in
theorem bits_q {w : World} {c : Cfg} {a1 a2 : Option Addr} {c1 l2 c2 : Nat} (hg : Gl w) (hP : Pcs w.heap.size w a1 c.ps) (hO : Ops w.heap.size w a2 l2) (hfit : c.text.size ≤ 1048576 ∧ c.ps.length ≤ 1048576 ∧ l2 ≤ 1048576) (hbb : -9223372036854775808 ≤ c.broken ∧ c.broken ≤ 9223372036854775807) :
    Calls Tryd.prog 4 #[.string c.text, .slice a1 c.ps.length c1, .int .i64 c.broken, .int .i64 1, .slice a2 l2 c2] w fun e w' => e = .returned (.bool true) ∧ Fr [] w w' := by
  have hcall := lawSmall_any c.text a1 a2 c.ps.length c1 l2 c2 w
  rw [decide_eq_true hfit] at hcall
  have hl2 : l2 ≤ 1048576 := hfit.2.2
  have hlen : c.len ≤ 1048576 := hfit.1
  have hglb := glB hg
  have hnew := newBits_q (cap := c1) hP (Nat.le_refl _) hlen hbb
  have hof : ∀ W, Fr [] w W → Calls Tryd.prog 10 #[.string c.text, .slice a1 c.ps.length c1, .int .i64 c.broken] W (OfPost W c) := fun W hW => of_any (hP.keep hW (by simp)) hlen
  have hof' := Hid.mk hof
  have hbb' := Hid.mk hbb
  obtain ⟨B, hB⟩ : ∃ B, B = w.heap.size := ⟨_, rfl⟩
  rw [← hB] at hnew hglb hO
  have hB' := Hid.mk hB
  generalize c.ps.length = cl at *
  clear hfit hof hbb hlen hB
  go_enter Tryd.func4, Tryd.ntmps4
  go_wp2_with (first
    | (go_at_call 5; refine hcall.mono ?_; rintro e w1 ⟨rfl, rfl⟩)
    | (go_at_call 9; refine hnew.mono ?_; rintro e w2 ⟨pb, tb, rb, bs, S, rfl, hpb, hf2, hS2, hpb2, htb2⟩; have hf3 := hf2.alloc' (.cells #[.int .i64 0, .int .i64 0, .int .i64 0] 24); have hpb3 := hpb.still (Fr.alloc [] w2 (.cells #[.int .i64 0, .int .i64 0, .int .i64 0] 24)))
    | (go_at_call 10; refine (hof'.out _ hf3).mono ?_; rintro e w4 ⟨rfl, hsb, hf4⟩))
  have hsz : (w2.alloc (.cells #[.int .i64 0, .int .i64 0, .int .i64 0] 24)).heap.size = w2.heap.size + 1 := by simp
  rw [hsz] at hsb
  have hall := hpb.rd.all
  have hB0 : Both true B pb tb rb bs (w2.heap.size + 1) c w4 0 S :=
    ⟨hpb3.still hf4, hsb, fun hx => by have := (hall _ hx).2; omega, hglb.keep (hf3.same hf4) (by simp), by rw [hB'.out]; have := hf2.size; omega⟩
  have hF0 : Fr [] w w4 := hf3.same hf4
  have hB0' := Hid.mk hB0
  clear hB0 hsb hall hpb3 hf3 hpb hS2 hpb2 htb2 hsz hcall hnew
  generalize w2.heap.size + 1 = sb at *
  go_loopg [15] l2 (fun g s15 wx => ∃ (k p : Nat) (S : List Nat), g = l2 - k ∧ k ≤ l2 ∧ s15 = .int .i64 k ∧ Hid (Both true B pb tb rb bs sb c wx p S) ∧ Fr [] w wx)
  case atStart => exact ⟨0, 0, S, rfl, Nat.zero_le _, rfl, hB0', hF0⟩
  case round =>
    obtain ⟨k, p, S1, hg1, hk, rfl, hB1, hF1⟩ := hrel
    have hG := Hid.mk hg1
    clear hg1
    by_cases hlt : k < l2
    · have hlt' : (k : Int) < (l2 : Int) := by omega
      obtain ⟨b, off, z, rfl, hb, hcell⟩ := hO.cell k hlt
      have hcx := hF1.cell hcell (by simp)
      go_wp2_with (go_at_call 11; refine (asked_any hB1.out z).mono ?_; rintro e w5 ⟨rfl, p5, S5, hf5, hB5, hx5⟩)
      go_roundg (l2 - (k + 1))
      case measure => have := hG.out; omega
      case rel =>
        refine ⟨k + 1, p5, S5, rfl, by omega, by go_num, hB5, hF1.trans hf5 (fun x hx => .inr ?_)⟩
        rw [← hB'.out]
        rcases List.mem_cons.1 hx with rfl | hx
        · exact hB1.out.ab
        · exact (hB1.out.rdr.rd.all x hx).1
    · obtain rfl : k = l2 := by omega
      have hlt' : ¬ (k : Int) < (k : Int) := by omega
      go_wp2_with (go_at_call 12; refine (pOdd_any hB1.out.rdr).mono ?_; rintro e w5 ⟨rfl, rfl⟩)
      go_ret
      exact ⟨rfl, hF1⟩

theorem bits_any {w : World} (hg : Gl w) (s : ByteArray) {a1 a2 : Option Addr} {l1 c1 l2 c2 : Nat} (zs : List Int) (hz : zs.length = l1)
    (hc : ∀ i, i < l1 → ∃ b off, a1 = some ⟨b, off, none⟩ ∧ b < w.heap.size ∧ w.cell? ⟨b, off + i, none⟩ = some (.int .i64 (zs.getD i 0)))
    (hf : ∀ i, i < l1 → -9223372036854775808 ≤ zs.getD i 0 ∧ zs.getD i 0 ≤ 9223372036854775807) (br : Int) (hbb : -9223372036854775808 ≤ br ∧ br ≤ 9223372036854775807) (kd : Int)
    (hO : ∀ i, i < l2 → ∃ b off z, a2 = some ⟨b, off, none⟩ ∧ b < w.heap.size ∧ w.cell? ⟨b, off + i, none⟩ = some (.int .i64 z)) :
    Calls Tryd.prog 4 #[.string s, .slice a1 l1 c1, .int .i64 br, .int .i64 kd, .slice a2 l2 c2] w fun e w' => e = .returned (.bool true) ∧ Fr [] w w' := by
  by_cases hfit : s.size ≤ 1048576 ∧ l1 ≤ 1048576 ∧ l2 ≤ 1048576
  · subst hz
    by_cases h0 : kd = 0
    · subst h0
      exact bits_s (c := ⟨s, zs, br⟩) hg ⟨hfit.2.1, hc, hf⟩ ⟨hO⟩ hfit hbb
    · by_cases h1 : kd = 1
      · subst h1
        exact bits_q (c := ⟨s, zs, br⟩) hg ⟨hfit.2.1, hc, hf⟩ ⟨hO⟩ hfit hbb
      · exact bits_no s a1 a2 zs.length c1 l2 c2 br kd w hg h0 h1 hfit
  · exact bits_big s a1 a2 l1 c1 l2 c2 br kd w hfit
end Go.Proofs.YthigfpaajbejdaaDoor
