/-
  flac.decoder.bytes, walked: the next n bytes.
-/
import Derived.Test.YthigfpaajbejdaaGreatDoorTold
import Derived.Test.YthigfpaajbejdaaGreatDoorRefStream
import Derived.Test.YthigfpaajbejdaaGreatDoorRefOpen
import Derived.Laws.BytesString
import Derived.Laws.IdiomStrings
namespace Go.Proofs.YthigfpaajbejdaaGreatDoor
open Go.RowKit

/-- The program's decoder stands in block db: over the reader in block rb (its type: tv); what the stream says of itself; the frame and the byte of its place. -/
def DecF (tv : Nat) (w : World) (db rb hb : Nat) (k0 k1 k2 : Value) (i : Nat → Int) (sm : ByteArray) (fr at_ : Int) : Prop :=
  Blk w db #[.iface tv (.pointer (some ⟨rb, 0, none⟩)), k0, k1, k2, .int .i64 (i 0), .int .i64 (i 1), .int .i64 (i 2), .int .i64 (i 3), .int .i64 (i 4), .int .i64 (i 5), .int .i64 (i 6), .int .i64 (i 7), .string sm, .pointer (some ⟨hb, 0, none⟩), .int .i64 fr, .int .i64 at_, .int .i64 0, .bool false, .nilIface] 178
theorem DecF.blk {tv : Nat} {w : World} {db rb hb : Nat} {k0 k1 k2 : Value} {i : Nat → Int} {sm : ByteArray} {fr at_ : Int} (h : DecF tv w db rb hb k0 k1 k2 i sm fr at_) :
  Blk w db #[.iface tv (.pointer (some ⟨rb, 0, none⟩)), k0, k1, k2, .int .i64 (i 0), .int .i64 (i 1), .int .i64 (i 2), .int .i64 (i 3), .int .i64 (i 4), .int .i64 (i 5), .int .i64 (i 6), .int .i64 (i 7), .string sm, .pointer (some ⟨hb, 0, none⟩), .int .i64 fr, .int .i64 at_, .int .i64 0, .bool false, .nilIface] 178 := h

section
variable {q : Bool} {B : Nat} {w w0 w1 w' : World} {rb bs : Nat} {c : Cfg} {p p' j : Nat} {S S1 T : List Nat}
theorem rdByte_ok (h : RdS q B w rb bs c (8 * j) S) (hin : j + 1 ≤ c.lim.1) :
    Calls Tryz.prog (rdRead q) #[.pointer (some ⟨rb, 0, none⟩), .int .i64 8] w fun e w' => e = .returned (.tuple #[.int .u64 (c.byte j), .nilIface]) ∧ Moved (RdS q B · rb bs c) w S (8 * (j + 1)) w' := by
  rw [← c.bits_byte j]
  exact rdRead_ok h 8 (by decide) (by omega)
theorem rdByte_not (h : RdS q B w rb bs c (8 * j) S) (hin : c.lim.1 < j + 1) (hl : wantE c.lim.2 ≠ 0) :
    Calls Tryz.prog (rdRead q) #[.pointer (some ⟨rb, 0, none⟩), .int .i64 8] w fun e w' => e = .returned (.tuple #[.int .u64 0, .iface (errT (wantE c.lim.2)) (.int .i64 (errN (wantE c.lim.2)))]) ∧ Moved (RdS q B · rb bs c) w S (8 * j) w' :=
  rdRead_not h 8 (by decide) (by omega) hl
/-- The reader has moved on, from what it was in world w0: what else there was stands, but for the blocks T. -/
structure MovT (q : Bool) (B rb bs : Nat) (c : Cfg) (T : List Nat) (w0 : World) (S : List Nat) (p : Nat) (w : World) (S1 : List Nat) : Prop where
  rd : RdS q B w rb bs c p S1
  new : ∀ x ∈ S1, x ∈ S ∨ w0.heap.size ≤ x
  fr : Fr (T ++ S) w0 w
theorem MovT.start (h : RdS q B w rb bs c p S) (T : List Nat) : MovT q B rb bs c T w S p w S := ⟨h, fun _ hx => .inl hx, Fr.refl _ _⟩
theorem MovT.step (h : MovT q B rb bs c T w0 S p w S1) (hm : Moved (RdS q B · rb bs c) w S1 p' w1) : ∃ S2, MovT q B rb bs c T w0 S p' w1 S2 := by
  obtain ⟨hF, S2, hr, hn⟩ := hm
  refine ⟨S2, hr, fun x hx => ?_, h.fr.trans hF (fun x hx => ?_)⟩
  · rcases hn x hx with h1 | h1
    · exact h.new x h1
    · exact .inr (Nat.le_trans h.fr.size h1)
  · exact (h.new x hx).imp_left (fun h => List.mem_append_right _ h)
theorem MovT.side (h : MovT q B rb bs c T w0 S p w S1) (hf : Fr T w w1) (hT : ∀ x ∈ T, x ∉ S1 ∧ B ≤ x) : MovT q B rb bs c T w0 S p w1 S1 :=
  ⟨h.rd.keep hf (fun x hx hx' => (hT x hx').1 hx) (fun x hx => (hT x hx).2), h.new, h.fr.trans hf (fun x hx => .inl (List.mem_append_left _ hx))⟩
theorem MovT.moved (h : MovT q B rb bs c [] w0 S p w S1) : Moved (RdS q B · rb bs c) w0 S p w := ⟨h.fr, S1, h.rd, h.new⟩
/-- One new block N has been made ahead, and written. -/
theorem MovT.fresh {N : Nat} (h : MovT q B rb bs c [N] w0 S p w S1) (hf : Fr [] w' w0) (hN : w'.heap.size ≤ N) : Moved (RdS q B · rb bs c) w' S p w :=
  ⟨(hf.mono (T := S) (by simp)).trans h.fr (fun x hx => by
    rcases List.mem_append.1 hx with hx | hx
    · exact .inr (by rw [List.mem_singleton] at hx; omega)
    · exact .inl hx), S1, h.rd, fun x hx => (h.new x hx).imp_right (Nat.le_trans hf.size)⟩
theorem MovT.notin {N : Nat} (h : MovT q B rb bs c T w0 S p w S1) (hN : N ∉ S) (hlt : N < w0.heap.size) : N ∉ S1 := fun hx => by
  rcases h.new N hx with h1 | h1
  · exact hN h1
  · omega
end

/-- n bytes in the making, k of them there. -/
def RowU (w : World) (ob : Nat) (f : Nat → Nat) (n k : Nat) : Prop := ∃ cs : Array Value, Blk w ob cs 5 ∧ cs.size = n ∧ ∀ i, i < k → cs[i]? = some (.int .u8 (f i))
theorem RowU.made (w : World) (f : Nat → Nat) (n : Nat) : RowU (w.alloc (.cells (madeCells #[Value.int .u8 0] n) 5)) w.heap.size f n 0 :=
  ⟨_, Blk.new w _ _, size_madeCells _ _, fun i hi => absurd hi (by omega)⟩
theorem RowU.keep {S : List Nat} {w w' : World} {ob : Nat} {f : Nat → Nat} {n k : Nat} (h : RowU w ob f n k) (hf : Fr S w w') (hS : ob ∉ S) : RowU w' ob f n k := by
  obtain ⟨cs, hb, h1, h2⟩ := h
  exact ⟨cs, hf.blk hb hS, h1, h2⟩
theorem RowU.there {w : World} {ob : Nat} {f : Nat → Nat} {n k : Nat} (h : RowU w ob f n k) (i : Nat) (hi : i < n) : ∃ v, w.cell? ⟨ob, i, none⟩ = some v ∧ w.frozen? ⟨ob, i, none⟩ = false := by
  obtain ⟨cs, hb, h1, _⟩ := h
  exact ⟨cs[i]'(by omega), by rw [hb.cell i, Array.getElem?_eq_getElem], hb.frozen i⟩
theorem RowU.set {w : World} {ob : Nat} {f : Nat → Nat} {n k : Nat} (h : RowU w ob f n k) (hk : k < n) (v : Value) (hv : v = .int .u8 (f k)) : RowU (w.setCell ⟨ob, k, none⟩ v) ob f n (k + 1) := by
  obtain ⟨cs, hb, h1, h2⟩ := h
  refine ⟨_, hb.set k v, by simpa using h1, fun i hi => ?_⟩
  rw [Array.getElem?_setIfInBounds]
  by_cases he : k = i
  · subst he; rw [if_pos rfl, if_pos (by omega), hv]
  · rw [if_neg he, h2 i (by omega)]
theorem rowU_text {w : World} {ob : Nat} {c : Cfg} {j n : Nat} (h : RowU w ob (fun i => c.byte (j + i)) n n) (hj : j + n ≤ c.len) :
    (convert 76 9 (.slice (some ⟨ob, 0, none⟩) n n)).run Tryz.prog w = .ok (.string (c.text.extract j (j + n))) w := by
  obtain ⟨cs, hb, h1, h2⟩ := h
  have hsz : j + n ≤ c.text.data.size := hj
  have hlen : (c.text.extract j (j + n)).data.toList.length = n := by
    rw [Array.length_toList]
    exact extract_len _ _ _ hj
  have hrun := run_convert_bytes_back (P := Tryz.prog) w 76 9 5 ⟨ob, 0, none⟩ n (c.text.extract j (j + n)).data.toList Tryz.underlying76 Tryz.underlying5 Tryz.underlying9 ?_
  · rw [hlen] at hrun
    exact hrun
  · intro i hi
    have hin : i < n := by omega
    rw [Go.WideShapes.add_plain]
    refine (hb.cell _).trans ?_
    rw [Nat.zero_add, h2 i hin]
    congr 2
    show ((c.text.data.getD (j + i) 0).toNat : Int) = _
    rw [Array.getD_eq_getD_getElem?, Array.getElem?_eq_getElem (by omega)]
    simp [ByteArray.data_extract]
theorem madeN (w : World) (n : Nat) (hn : n ≤ 16) : (Instr.makeSlice 76 (.int .i64 n) (.int .i64 n)).run Tryz.prog w = .ok (.slice (some ⟨w.heap.size, 0, none⟩) n n) (w.alloc (.cells (madeCells #[Value.int .u8 0] n) 5)) := by
  obtain ⟨i0, hi, hz0, hz1, hz2⟩ := info_parts u8info
  have := run_makeSlice (P := Tryz.prog) w 76 5 i0 (.int .u8 0) Tryz.underlying76 hi hz0 .i64 .i64 n n (by omega) (by omega) (by rw [hz1]; simp; omega) (by rw [hz2]; omega) (by omega)
  rw [hz1] at this
  simp only [Int.toNat_natCast, Nat.mul_one] at this
  exact this

/-- What bytes gives. -/
def BytesPost (q : Bool) (B rb bs : Nat) (c : Cfg) (S : List Nat) (j n : Nat) (w : World) (e : Ending) (w' : World) : Prop :=
  (j + n ≤ c.lim.1 ∧ e = .returned (.tuple #[.string (c.text.extract j (j + n)), .nilIface]) ∧ Moved (RdS q B · rb bs c) w S (8 * (j + n)) w') ∨
  (c.lim.1 < j + n ∧ e = .returned (.tuple #[.string ⟨#[]⟩, .iface (errT (wantE c.lim.2)) (.int .i64 (errN (wantE c.lim.2)))]) ∧ ∃ p, Moved (RdS q B · rb bs c) w S p w')
set_option maxRecDepth 100000 in
set_option maxHeartbeats 2000000 in
theorem bytes_any_s {B : Nat} {w : World} {db rb bs hb : Nat} {k0 k1 k2 : Value} {i : Nat → Int} {sm : ByteArray} {fr at_ : Int} {c : Cfg} {j n : Nat} {S : List Nat} (hk : LimOk c) (hd : DecF 230 w db rb hb k0 k1 k2 i sm fr at_) (h : RdS false B w rb bs c (8 * j) S) (hdb : db ∉ S) (hn : n ≤ 16) (hj : j ≤ c.lim.1) {z : Int} (hz : z = (n : Int)) :
    Calls Tryz.prog 112 #[.pointer (some ⟨db, 0, none⟩), .int .i64 z] w (BytesPost false B rb bs c S j n w) := by
  subst hz
  have hm : ∀ (a : Addr) (w : World), (Go.method 464 230 (.pointer (some a)) "Read").run Tryz.prog w = .ok (246, .pointer (some a)) w := fun a w => by kernel_rfl
  have hmk := madeN w n hn
  have hwe := (wantE_ne hk.stop).1
  obtain ⟨hh, hlf⟩ := errV_leaf hwe
  have hln := hlf.nnil
  have hok := fun W S1 k (hr : RdS false B W rb bs c (8 * (j + k)) S1) (hin : j + k + 1 ≤ c.lim.1) => Hid.mk2 (show Calls Tryz.prog 246 #[.pointer (some ⟨rb, 0, none⟩), .int .i64 8] W fun e w' => e = .returned (.tuple #[.int .u64 (c.byte (j + k)), .nilIface]) ∧ Moved (RdS false B · rb bs c) W S1 (8 * (j + (k + 1))) w' from rdByte_ok (q := false) hr hin)
  have hnot := fun W S1 k (hr : RdS false B W rb bs c (8 * (j + k)) S1) (hin : c.lim.1 < j + k + 1) => Hid.mk2 (show Calls Tryz.prog 246 #[.pointer (some ⟨rb, 0, none⟩), .int .i64 8] W fun e w' => e = .returned (.tuple #[.int .u64 0, .iface (errT (wantE c.lim.2)) (.int .i64 (errN (wantE c.lim.2)))]) ∧ Moved (RdS false B · rb bs c) W S1 (8 * (j + k)) w' from rdByte_not (q := false) hr hin hwe)
  have hlen := hk.len
  unfold BytesPost
  generalize errT (wantE c.lim.2) = et at *
  generalize errN (wantE c.lim.2) = en at *
  have hF0 := Fr.alloc [] w (.cells (madeCells #[Value.int .u8 0] n) 5)
  have hr0 := h.still hF0
  have hd0 : DecF 230 (w.alloc (.cells (madeCells #[Value.int .u8 0] n) 5)) db rb hb k0 k1 k2 i sm fr at_ := hF0.blk hd.blk (by simp)
  have hO0 := RowU.made w (fun i => c.byte (j + i)) n
  have hall := h.all
  have hBw : B ≤ w.heap.size := by
    obtain ⟨_, _, _, _, _, _, _, _, _, h1, h2, _⟩ := h.feed
    omega
  have hNS : w.heap.size ∉ S := fun hx => by have := (hall _ hx).2; omega
  have hND : db ≠ w.heap.size := Nat.ne_of_lt hd.blk.lt
  clear hlf hwe hall
  go_enter Tryz.func112, Tryz.ntmps112
  go_wp2_with fail
  have hNl : w.heap.size < (w.alloc (.cells (madeCells #[Value.int .u8 0] n) 5)).heap.size := by simp
  clear hmk
  obtain ⟨W0, hW0⟩ : ∃ W0, W0 = w.alloc (.cells (madeCells #[Value.int .u8 0] n) 5) := ⟨_, rfl⟩
  obtain ⟨ob, hob⟩ : ∃ ob, ob = w.heap.size := ⟨_, rfl⟩
  have hobw : Hid (w.heap.size ≤ ob) := Nat.le_of_eq hob.symm
  rw [← hob] at hO0 hNS hND hNl hBw
  rw [← hob]
  rw [← hW0] at hF0 hr0 hd0 hO0 hNl
  rw [← hW0]
  clear hW0 hob
  have hM0 := MovT.start hr0 [ob]
  have hO0' := Hid.mk2 hO0
  clear hr0 hO0
  go_loopg [14] n (fun g s14 wx => ∃ (k : Nat) (S1 : List Nat), g = n - k ∧ k ≤ n ∧ s14 = .int .i64 k ∧ Hid (MovT false B rb bs c [ob] W0 S (8 * (j + k)) wx S1) ∧ Hid (RowU wx ob (fun i => c.byte (j + i)) n k) ∧ Hid (j + k ≤ c.lim.1))
  case atStart => exact ⟨0, S, rfl, Nat.zero_le _, rfl, hM0, hO0', hj⟩
  case round =>
    obtain ⟨k, S1, hg, hkn, rfl, hM, hO, hjk⟩ := hrel
    have hG := Hid.mk2 hg
    clear hg
    have hNS1 : ob ∉ S1 := hM.out.notin hNS hNl
    have hdS : db ∉ [ob] ++ S := by simp; exact ⟨hND, hdb⟩
    have hd1 : DecF 230 wr db rb hb k0 k1 k2 i sm fr at_ := hM.out.fr.blk hd0.blk hdS
    have hc1 := hd1.blk.cell
    by_cases hlt : k < n
    · have hlt' : (k : Int) < (n : Int) := by omega
      by_cases hin : j + k + 1 ≤ c.lim.1
      · have hcall := hok _ _ k hM.out.rd hin
        have hb := c.byte_lt (j + k)
        obtain ⟨b, hbe⟩ : ∃ b, b = c.byte (j + k) := ⟨_, rfl⟩
        rw [← hbe] at hcall hb
        have hbe' := Hid.mk2 hbe
        clear hbe
        go_wp2_with (go_at_call 246; (with_reducible refine (hcall.out).mono ?_); rintro e w1 ⟨rfl, hm1⟩; have hO1 := Hid.mk2 (hO.out.keep hm1.1 hNS1); obtain ⟨v9, hv9, hz9⟩ := hO1.out.there k hlt; have hm1' := Hid.mk2 hm1; clear hm1)
        go_roundg (n - (k + 1))
        case measure => have := hG.out; omega
        case rel =>
          obtain ⟨S2, hM2⟩ := hM.out.step hm1'.out
          refine ⟨k + 1, S2, rfl, hlt, by go_num, ?_, hO1.out.set hlt _ (by rw [hbe'.out]), by unfold Hid; omega⟩
          exact hM2.side (Fr.set _ (List.mem_singleton.2 rfl)) (fun x hx => by rw [List.mem_singleton] at hx; subst hx; exact ⟨hM2.notin hNS hNl, hBw⟩)
      · have hcall := hnot _ _ k hM.out.rd (by omega)
        go_wp2_with (go_at_call 246; (with_reducible refine (hcall.out).mono ?_); rintro e w1 ⟨rfl, hm1⟩)
        go_ret2
        obtain ⟨S2, hM2⟩ := hM.out.step hm1
        exact .inr ⟨by omega, rfl, _, hM2.fresh hF0 hobw.out⟩
    · obtain rfl : k = n := by omega
      have hlt' : ¬ (k : Int) < (k : Int) := by omega
      have hcv := rowU_text hO.out (by have := hjk.out; omega)
      go_wp2_with fail
      go_ret2
      exact .inl ⟨hjk.out, rfl, hM.out.fresh hF0 hobw.out⟩

set_option maxRecDepth 100000 in
set_option maxHeartbeats 2000000 in
theorem bytes_any_q {B : Nat} {w : World} {db rb bs hb : Nat} {k0 k1 k2 : Value} {i : Nat → Int} {sm : ByteArray} {fr at_ : Int} {c : Cfg} {j n : Nat} {S : List Nat} (hk : LimOk c) (hd : DecF 233 w db rb hb k0 k1 k2 i sm fr at_) (h : RdS true B w rb bs c (8 * j) S) (hdb : db ∉ S) (hn : n ≤ 16) (hj : j ≤ c.lim.1) {z : Int} (hz : z = (n : Int)) :
    Calls Tryz.prog 112 #[.pointer (some ⟨db, 0, none⟩), .int .i64 z] w (BytesPost true B rb bs c S j n w) := by
  subst hz
  have hm : ∀ (a : Addr) (w : World), (Go.method 464 233 (.pointer (some a)) "Read").run Tryz.prog w = .ok (255, .pointer (some a)) w := fun a w => by kernel_rfl
  have hmk := madeN w n hn
  have hwe := (wantE_ne hk.stop).1
  obtain ⟨hh, hlf⟩ := errV_leaf hwe
  have hln := hlf.nnil
  have hok := fun W S1 k (hr : RdS true B W rb bs c (8 * (j + k)) S1) (hin : j + k + 1 ≤ c.lim.1) => Hid.mk2 (show Calls Tryz.prog 255 #[.pointer (some ⟨rb, 0, none⟩), .int .i64 8] W fun e w' => e = .returned (.tuple #[.int .u64 (c.byte (j + k)), .nilIface]) ∧ Moved (RdS true B · rb bs c) W S1 (8 * (j + (k + 1))) w' from rdByte_ok (q := true) hr hin)
  have hnot := fun W S1 k (hr : RdS true B W rb bs c (8 * (j + k)) S1) (hin : c.lim.1 < j + k + 1) => Hid.mk2 (show Calls Tryz.prog 255 #[.pointer (some ⟨rb, 0, none⟩), .int .i64 8] W fun e w' => e = .returned (.tuple #[.int .u64 0, .iface (errT (wantE c.lim.2)) (.int .i64 (errN (wantE c.lim.2)))]) ∧ Moved (RdS true B · rb bs c) W S1 (8 * (j + k)) w' from rdByte_not (q := true) hr hin hwe)
  have hlen := hk.len
  unfold BytesPost
  generalize errT (wantE c.lim.2) = et at *
  generalize errN (wantE c.lim.2) = en at *
  have hF0 := Fr.alloc [] w (.cells (madeCells #[Value.int .u8 0] n) 5)
  have hr0 := h.still hF0
  have hd0 : DecF 233 (w.alloc (.cells (madeCells #[Value.int .u8 0] n) 5)) db rb hb k0 k1 k2 i sm fr at_ := hF0.blk hd.blk (by simp)
  have hO0 := RowU.made w (fun i => c.byte (j + i)) n
  have hall := h.all
  have hBw : B ≤ w.heap.size := by
    obtain ⟨_, _, _, _, _, _, _, _, _, h1, h2, _⟩ := h.feed
    omega
  have hNS : w.heap.size ∉ S := fun hx => by have := (hall _ hx).2; omega
  have hND : db ≠ w.heap.size := Nat.ne_of_lt hd.blk.lt
  clear hlf hwe hall
  go_enter Tryz.func112, Tryz.ntmps112
  go_wp2_with fail
  have hNl : w.heap.size < (w.alloc (.cells (madeCells #[Value.int .u8 0] n) 5)).heap.size := by simp
  clear hmk
  obtain ⟨W0, hW0⟩ : ∃ W0, W0 = w.alloc (.cells (madeCells #[Value.int .u8 0] n) 5) := ⟨_, rfl⟩
  obtain ⟨ob, hob⟩ : ∃ ob, ob = w.heap.size := ⟨_, rfl⟩
  have hobw : Hid (w.heap.size ≤ ob) := Nat.le_of_eq hob.symm
  rw [← hob] at hO0 hNS hND hNl hBw
  rw [← hob]
  rw [← hW0] at hF0 hr0 hd0 hO0 hNl
  rw [← hW0]
  clear hW0 hob
  have hM0 := MovT.start hr0 [ob]
  have hO0' := Hid.mk2 hO0
  clear hr0 hO0
  go_loopg [14] n (fun g s14 wx => ∃ (k : Nat) (S1 : List Nat), g = n - k ∧ k ≤ n ∧ s14 = .int .i64 k ∧ Hid (MovT true B rb bs c [ob] W0 S (8 * (j + k)) wx S1) ∧ Hid (RowU wx ob (fun i => c.byte (j + i)) n k) ∧ Hid (j + k ≤ c.lim.1))
  case atStart => exact ⟨0, S, rfl, Nat.zero_le _, rfl, hM0, hO0', hj⟩
  case round =>
    obtain ⟨k, S1, hg, hkn, rfl, hM, hO, hjk⟩ := hrel
    have hG := Hid.mk2 hg
    clear hg
    have hNS1 : ob ∉ S1 := hM.out.notin hNS hNl
    have hdS : db ∉ [ob] ++ S := by simp; exact ⟨hND, hdb⟩
    have hd1 : DecF 233 wr db rb hb k0 k1 k2 i sm fr at_ := hM.out.fr.blk hd0.blk hdS
    have hc1 := hd1.blk.cell
    by_cases hlt : k < n
    · have hlt' : (k : Int) < (n : Int) := by omega
      by_cases hin : j + k + 1 ≤ c.lim.1
      · have hcall := hok _ _ k hM.out.rd hin
        have hb := c.byte_lt (j + k)
        obtain ⟨b, hbe⟩ : ∃ b, b = c.byte (j + k) := ⟨_, rfl⟩
        rw [← hbe] at hcall hb
        have hbe' := Hid.mk2 hbe
        clear hbe
        go_wp2_with (go_at_call 255; (with_reducible refine (hcall.out).mono ?_); rintro e w1 ⟨rfl, hm1⟩; have hO1 := Hid.mk2 (hO.out.keep hm1.1 hNS1); obtain ⟨v9, hv9, hz9⟩ := hO1.out.there k hlt; have hm1' := Hid.mk2 hm1; clear hm1)
        go_roundg (n - (k + 1))
        case measure => have := hG.out; omega
        case rel =>
          obtain ⟨S2, hM2⟩ := hM.out.step hm1'.out
          refine ⟨k + 1, S2, rfl, hlt, by go_num, ?_, hO1.out.set hlt _ (by rw [hbe'.out]), by unfold Hid; omega⟩
          exact hM2.side (Fr.set _ (List.mem_singleton.2 rfl)) (fun x hx => by rw [List.mem_singleton] at hx; subst hx; exact ⟨hM2.notin hNS hNl, hBw⟩)
      · have hcall := hnot _ _ k hM.out.rd (by omega)
        go_wp2_with (go_at_call 255; (with_reducible refine (hcall.out).mono ?_); rintro e w1 ⟨rfl, hm1⟩)
        go_ret2
        obtain ⟨S2, hM2⟩ := hM.out.step hm1
        exact .inr ⟨by omega, rfl, _, hM2.fresh hF0 hobw.out⟩
    · obtain rfl : k = n := by omega
      have hlt' : ¬ (k : Int) < (k : Int) := by omega
      have hcv := rowU_text hO.out (by have := hjk.out; omega)
      go_wp2_with fail
      go_ret2
      exact .inl ⟨hjk.out, rfl, hM.out.fresh hF0 hobw.out⟩

end Go.Proofs.YthigfpaajbejdaaGreatDoor
