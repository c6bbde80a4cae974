/-
  flac.decoder.stream, walked: what the stream says of itself.
-/
import Derived.Test.YthigfpaajbejdaaGreatDoorDecBytes
import Derived.Test.YthigfpaajbejdaaGreatDoorRefAbout
namespace Go.Proofs.YthigfpaajbejdaaGreatDoor
open Go.RowKit

theorem bytes_ok_s {B : Nat} {w : World} {db rb bs hb : Nat} {k0 k1 k2 : Value} {i : Nat → Int} {sm : ByteArray} {fr at_ : Int} {c : Cfg} {p j n : Nat} {S : List Nat} (hk : LimOk c) (hd : DecF 230 w db rb hb k0 k1 k2 i sm fr at_) (h : RdS false B w rb bs c p S) (hp : p = 8 * j) (hdb : db ∉ S) (hn : n ≤ 16) (hin : j + n ≤ c.lim.1) {z : Int} (hz : z = (n : Int)) :
    Calls Tryz.prog 112 #[.pointer (some ⟨db, 0, none⟩), .int .i64 z] w fun e w' => e = .returned (.tuple #[.string (c.text.extract j (j + n)), .nilIface]) ∧ Moved (RdS false B · rb bs c) w S (8 * (j + n)) w' := by
  subst hp
  refine (bytes_any_s hk hd h hdb hn (by omega) hz).mono ?_
  rintro e w' (⟨_, h1, h2⟩ | ⟨h1, _⟩)
  · exact ⟨h1, h2⟩
  · omega
theorem bytes_not_s {B : Nat} {w : World} {db rb bs hb : Nat} {k0 k1 k2 : Value} {i : Nat → Int} {sm : ByteArray} {fr at_ : Int} {c : Cfg} {p j n : Nat} {S : List Nat} (hk : LimOk c) (hd : DecF 230 w db rb hb k0 k1 k2 i sm fr at_) (h : RdS false B w rb bs c p S) (hp : p = 8 * j) (hdb : db ∉ S) (hn : n ≤ 16) (hj : j ≤ c.lim.1) (hin : c.lim.1 < j + n) {z : Int} (hz : z = (n : Int)) :
    Calls Tryz.prog 112 #[.pointer (some ⟨db, 0, none⟩), .int .i64 z] w fun e w' => e = .returned (.tuple #[.string ⟨#[]⟩, .iface (errT (wantE c.lim.2)) (.int .i64 (errN (wantE c.lim.2)))]) ∧ ∃ p, Moved (RdS false B · rb bs c) w S p w' := by
  subst hp
  refine (bytes_any_s hk hd h hdb hn hj hz).mono ?_
  rintro e w' (⟨h1, _⟩ | ⟨_, h1, h2⟩)
  · omega
  · exact ⟨h1, h2⟩
theorem bytes_ok_q {B : Nat} {w : World} {db rb bs hb : Nat} {k0 k1 k2 : Value} {i : Nat → Int} {sm : ByteArray} {fr at_ : Int} {c : Cfg} {p j n : Nat} {S : List Nat} (hk : LimOk c) (hd : DecF 233 w db rb hb k0 k1 k2 i sm fr at_) (h : RdS true B w rb bs c p S) (hp : p = 8 * j) (hdb : db ∉ S) (hn : n ≤ 16) (hin : j + n ≤ c.lim.1) {z : Int} (hz : z = (n : Int)) :
    Calls Tryz.prog 112 #[.pointer (some ⟨db, 0, none⟩), .int .i64 z] w fun e w' => e = .returned (.tuple #[.string (c.text.extract j (j + n)), .nilIface]) ∧ Moved (RdS true B · rb bs c) w S (8 * (j + n)) w' := by
  subst hp
  refine (bytes_any_q hk hd h hdb hn (by omega) hz).mono ?_
  rintro e w' (⟨_, h1, h2⟩ | ⟨h1, _⟩)
  · exact ⟨h1, h2⟩
  · omega
theorem bytes_not_q {B : Nat} {w : World} {db rb bs hb : Nat} {k0 k1 k2 : Value} {i : Nat → Int} {sm : ByteArray} {fr at_ : Int} {c : Cfg} {p j n : Nat} {S : List Nat} (hk : LimOk c) (hd : DecF 233 w db rb hb k0 k1 k2 i sm fr at_) (h : RdS true B w rb bs c p S) (hp : p = 8 * j) (hdb : db ∉ S) (hn : n ≤ 16) (hj : j ≤ c.lim.1) (hin : c.lim.1 < j + n) {z : Int} (hz : z = (n : Int)) :
    Calls Tryz.prog 112 #[.pointer (some ⟨db, 0, none⟩), .int .i64 z] w fun e w' => e = .returned (.tuple #[.string ⟨#[]⟩, .iface (errT (wantE c.lim.2)) (.int .i64 (errN (wantE c.lim.2)))]) ∧ ∃ p, Moved (RdS true B · rb bs c) w S p w' := by
  subst hp
  refine (bytes_any_q hk hd h hdb hn hj hz).mono ?_
  rintro e w' (⟨h1, _⟩ | ⟨_, h1, h2⟩)
  · omega
  · exact ⟨h1, h2⟩

section
variable {q : Bool} {B : Nat} {w w0 w1 w' : World} {rb bs : Nat} {c : Cfg} {p p' j k : Nat} {S S1 T : List Nat}
theorem rdInf_ok (h : RdS q B w rb bs c (infoPos k) S) (hk : k < 8) (hin : infoPos (k + 1) ≤ 8 * c.lim.1) :
    Calls Tryz.prog (rdRead q) #[.pointer (some ⟨rb, 0, none⟩), .int .i64 (infoLen k)] w fun e w' => e = .returned (.tuple #[.int .u64 (c.inf k), .nilIface]) ∧ Moved (RdS q B · rb bs c) w S (infoPos (k + 1)) w' := by
  obtain ⟨e, h1, _, _⟩ := infoPos_succ k hk
  rw [e] at hin ⊢
  exact rdRead_ok h (infoLen k) (by omega) hin
theorem rdInf_not (h : RdS q B w rb bs c (infoPos k) S) (hk : k < 8) (hin : 8 * c.lim.1 < infoPos (k + 1)) (hl : wantE c.lim.2 ≠ 0) :
    Calls Tryz.prog (rdRead q) #[.pointer (some ⟨rb, 0, none⟩), .int .i64 (infoLen k)] w fun e w' => e = .returned (.tuple #[.int .u64 0, .iface (errT (wantE c.lim.2)) (.int .i64 (errN (wantE c.lim.2)))]) ∧ Moved (RdS q B · rb bs c) w S (infoPos k) w' := by
  obtain ⟨e, h1, _, _⟩ := infoPos_succ k hk
  rw [e] at hin
  exact rdRead_not h (infoLen k) (by omega) hin hl
theorem MovT.fresh1 {N : Nat} (h : MovT q B rb bs c [N] w0 S p w S1) (hf : Fr [] w' w0) (hN : w'.heap.size ≤ N) (T : List Nat) : MovT q B rb bs c T w' S p w S1 :=
  ⟨h.rd, fun x hx => (h.new x hx).imp_right (Nat.le_trans hf.size), (hf.mono (T := T ++ S) (by simp)).trans h.fr (fun x hx => by
    rcases List.mem_append.1 hx with hx | hx
    · exact .inr (by rw [List.mem_singleton] at hx; omega)
    · exact .inl (List.mem_append_right _ hx))⟩
theorem MovT.also (h : MovT q B rb bs c T w0 S p w S1) (hf : Fr [] w w1) : MovT q B rb bs c T w0 S p w1 S1 := ⟨h.rd.still hf, h.new, h.fr.same (hf.mono (by simp))⟩
theorem MovT.one {N : Nat} (h : MovT q B rb bs c [N] w0 S p w S1) (hf : Fr [N] w w1) (hN : N ∉ S) (hlt : N < w0.heap.size) (hB : B ≤ N) : MovT q B rb bs c [N] w0 S p w1 S1 :=
  h.side hf (fun x hx => by rw [List.mem_singleton] at hx; subst hx; exact ⟨h.notin hN hlt, hB⟩)
end
/-- Eight numbers in the making, k of them there. -/
def RowI (w : World) (ob : Nat) (f : Nat → Nat) (k : Nat) : Prop := ∃ cs : Array Value, Blk w ob cs 291 ∧ cs.size = 8 ∧ ∀ i, i < k → cs[i]? = some (.int .i64 (f i))
theorem RowI.made (w : World) (f : Nat → Nat) : RowI (w.alloc (.cells #[.int .i64 0, .int .i64 0, .int .i64 0, .int .i64 0, .int .i64 0, .int .i64 0, .int .i64 0, .int .i64 0] 291)) w.heap.size f 0 :=
  ⟨_, Blk.new w _ _, rfl, fun i hi => absurd hi (by omega)⟩
theorem RowI.keep {S : List Nat} {w w' : World} {ob : Nat} {f : Nat → Nat} {k : Nat} (h : RowI w ob f k) (hf : Fr S w w') (hS : ob ∉ S) : RowI w' ob f k := by
  obtain ⟨cs, hb, h1, h2⟩ := h
  exact ⟨cs, hf.blk hb hS, h1, h2⟩
theorem RowI.there {w : World} {ob : Nat} {f : Nat → Nat} {k : Nat} (h : RowI w ob f k) (i : Nat) (hi : i < 8) : ∃ v, w.cell? ⟨ob, i, none⟩ = some v ∧ w.frozen? ⟨ob, i, none⟩ = false := by
  obtain ⟨cs, hb, h1, _⟩ := h
  exact ⟨cs[i]'(by omega), by rw [hb.cell i, Array.getElem?_eq_getElem], hb.frozen i⟩
theorem RowI.set {w : World} {ob : Nat} {f : Nat → Nat} {k : Nat} (h : RowI w ob f k) (hk : k < 8) (v : Value) (hv : v = .int .i64 (f k)) : RowI (w.setCell ⟨ob, k, none⟩ v) ob f (k + 1) := by
  obtain ⟨cs, hb, h1, h2⟩ := h
  refine ⟨_, hb.set k v, by simpa using h1, fun i hi => ?_⟩
  rw [Array.getElem?_setIfInBounds]
  by_cases he : k = i
  · subst he; rw [if_pos rfl, if_pos (by omega), hv]
  · rw [if_neg he, h2 i (by omega)]
theorem RowI.get {w : World} {ob : Nat} {f : Nat → Nat} (h : RowI w ob f 8) (i : Nat) (hi : i < 8) : w.cell? ⟨ob, i, none⟩ = some (.int .i64 (f i)) := by
  obtain ⟨cs, hb, h1, h2⟩ := h
  rw [hb.cell i, h2 i hi]
theorem info_at (k : Nat) (hk : k < 8) (W : World) : (Instr.index 291 (.agg #[.int .i64 16, .int .i64 16, .int .i64 24, .int .i64 24, .int .i64 20, .int .i64 3, .int .i64 5, .int .i64 36]) (.int .i64 (k : Int))).run Tryz.prog W = .ok (.int .i64 (infoLen k : Nat)) W := by
  rcases (by omega : k = 0 ∨ k = 1 ∨ k = 2 ∨ k = 3 ∨ k = 4 ∨ k = 5 ∨ k = 6 ∨ k = 7) with rfl | rfl | rfl | rfl | rfl | rfl | rfl | rfl
  all_goals kernel_rfl
theorem RowI.getx {w : World} {ob : Nat} {f : Nat → Nat} (h : RowI w ob f 8) (i : Nat) (hi : i < 8) {x : Nat} (hx : Hid (x = f i)) : w.cell? ⟨ob, i, none⟩ = some (.int .i64 x) := by
  rw [hx.out]; exact h.get i hi
theorem fr9' (b : Nat) (w : World) (x0 x1 x2 x3 x4 x5 x6 x7 x8 : Value) : Fr [b] w (((((((((w.setCell ⟨b, 4, none⟩ x0).setCell ⟨b, 5, none⟩ x1).setCell ⟨b, 6, none⟩ x2).setCell ⟨b, 7, none⟩ x3).setCell ⟨b, 8, none⟩ x4).setCell ⟨b, 9, none⟩ x5).setCell ⟨b, 10, none⟩ x6).setCell ⟨b, 11, none⟩ x7).setCell ⟨b, 12, none⟩ x8) :=
  have m : b ∈ [b] := List.mem_singleton.2 rfl
  (((((((((Fr.refl [b] w).set' (a := ⟨b, 4, none⟩) x0 m).set' (a := ⟨b, 5, none⟩) x1 m).set' (a := ⟨b, 6, none⟩) x2 m).set' (a := ⟨b, 7, none⟩) x3 m).set' (a := ⟨b, 8, none⟩) x4 m).set' (a := ⟨b, 9, none⟩) x5 m).set' (a := ⟨b, 10, none⟩) x6 m).set' (a := ⟨b, 11, none⟩) x7 m).set' (a := ⟨b, 12, none⟩) x8 m

/-- What stream gives. -/
def StreamPost (q : Bool) (tv B db rb bs hb : Nat) (k0 k1 k2 : Value) (fr at_ : Int) (c : Cfg) (S : List Nat) (w : World) (e : Ending) (w' : World) : Prop :=
  ∃ (p : Nat) (S1 : List Nat) (i : Nat → Int) (sm : ByteArray), MovT q B rb bs c [db] w S p w' S1 ∧ DecF tv w' db rb hb k0 k1 k2 i sm fr at_ ∧
  ((c.lim.1 < 42 ∧ e = .returned (.iface (errT (wantE c.lim.2)) (.int .i64 (errN (wantE c.lim.2))))) ∨
   (42 ≤ c.lim.1 ∧ c.infoBad = true ∧ e = .returned (.iface 138 (.int .i64 4))) ∨
   (42 ≤ c.lim.1 ∧ c.infoBad = false ∧ e = .returned .nilIface ∧ p = 8 * 42 ∧ i = c.infI ∧ sm = c.text.extract 26 42))
set_option maxRecDepth 100000 in
set_option maxHeartbeats 4000000 in
theorem stream_any_s {B : Nat} {w : World} {db rb bs hb : Nat} {k0 k1 k2 : Value} {i : Nat → Int} {sm : ByteArray} {fr at_ : Int} {c : Cfg} {S : List Nat} (hk : LimOk c) (hd : DecF 230 w db rb hb k0 k1 k2 i sm fr at_) (h : RdS false B w rb bs c 64 S) (hdb : db ∉ S) (hB : B ≤ db) (h8 : 8 ≤ c.lim.1) :
    Calls Tryz.prog 137 #[.pointer (some ⟨db, 0, none⟩)] w (StreamPost false 230 B db rb bs hb k0 k1 k2 fr at_ c S w) := by
  have hm : ∀ (a : Addr) (w : World), (Go.method 464 230 (.pointer (some a)) "Read").run Tryz.prog w = .ok (246, .pointer (some a)) w := fun a w => by kernel_rfl
  have hwe := (wantE_ne hk.stop).1
  obtain ⟨hh, hlf⟩ := errV_leaf hwe
  have hln := hlf.nnil
  have hok := fun W S1 k (hr : RdS false B W rb bs c (infoPos k) S1) (hk8 : k < 8) (hin : infoPos (k + 1) ≤ 8 * c.lim.1) => Hid.mk2 (show Calls Tryz.prog 246 #[.pointer (some ⟨rb, 0, none⟩), .int .i64 (infoLen k)] W fun e w' => e = .returned (.tuple #[.int .u64 (c.inf k), .nilIface]) ∧ Moved (RdS false B · rb bs c) W S1 (infoPos (k + 1)) w' from rdInf_ok (q := false) hr hk8 hin)
  have hnot := fun W S1 k (hr : RdS false B W rb bs c (infoPos k) S1) (hk8 : k < 8) (hin : 8 * c.lim.1 < infoPos (k + 1)) => Hid.mk2 (show Calls Tryz.prog 246 #[.pointer (some ⟨rb, 0, none⟩), .int .i64 (infoLen k)] W fun e w' => e = .returned (.tuple #[.int .u64 0, .iface (errT (wantE c.lim.2)) (.int .i64 (errN (wantE c.lim.2)))]) ∧ Moved (RdS false B · rb bs c) W S1 (infoPos k) w' from rdInf_not (q := false) hr hk8 hin hwe)
  have htx := fun W S1 (hd : DecF 230 W db rb hb k0 k1 k2 i sm fr at_) (hr : RdS false B W rb bs c 208 S1) (hdb : db ∉ S1) (hin : 26 + 16 ≤ c.lim.1) => Hid.mk2 (bytes_ok_s (j := 26) (n := 16) hk hd hr rfl hdb (by decide) hin (z := 16) rfl)
  have htn := fun W S1 (hd : DecF 230 W db rb hb k0 k1 k2 i sm fr at_) (hr : RdS false B W rb bs c 208 S1) (hdb : db ∉ S1) (hj : 26 ≤ c.lim.1) (hin : c.lim.1 < 26 + 16) => Hid.mk2 (bytes_not_s (j := 26) (n := 16) hk hd hr rfl hdb (by decide) hj hin (z := 16) rfl)
  unfold StreamPost
  generalize errT (wantE c.lim.2) = et at *
  generalize errN (wantE c.lim.2) = en at *
  have hF0 := Fr.alloc [] w (.cells #[.int .i64 0, .int .i64 0, .int .i64 0, .int .i64 0, .int .i64 0, .int .i64 0, .int .i64 0, .int .i64 0] 291)
  have hr0 := h.still hF0
  have hd0 : DecF 230 (w.alloc (.cells #[.int .i64 0, .int .i64 0, .int .i64 0, .int .i64 0, .int .i64 0, .int .i64 0, .int .i64 0, .int .i64 0] 291)) db rb hb k0 k1 k2 i sm fr at_ := hF0.blk hd.blk (by simp)
  have hO0 := RowI.made w c.inf
  have hall := h.all
  have hBw : B ≤ w.heap.size := by
    obtain ⟨_, _, _, _, _, _, _, _, _, h1, h2, _⟩ := h.feed
    omega
  have hNS : w.heap.size ∉ S := fun hx => by have := (hall _ hx).2; omega
  have hND : db ≠ w.heap.size := Nat.ne_of_lt hd.blk.lt
  have hdl := hd.blk.lt
  clear hlf hwe hall
  go_enter Tryz.func137, Tryz.ntmps137
  go_wp2_with fail
  have hNl : w.heap.size < (w.alloc (.cells #[.int .i64 0, .int .i64 0, .int .i64 0, .int .i64 0, .int .i64 0, .int .i64 0, .int .i64 0, .int .i64 0] 291)).heap.size := by simp
  obtain ⟨W0, hW0⟩ : ∃ W0, W0 = w.alloc (.cells #[.int .i64 0, .int .i64 0, .int .i64 0, .int .i64 0, .int .i64 0, .int .i64 0, .int .i64 0, .int .i64 0] 291) := ⟨_, rfl⟩
  obtain ⟨ob, hob⟩ : ∃ ob, ob = w.heap.size := ⟨_, rfl⟩
  have hobw : Hid (w.heap.size ≤ ob) := Nat.le_of_eq hob.symm
  rw [← hob] at hO0 hNS hND hNl hBw
  rw [← hob]
  rw [← hW0] at hF0 hr0 hd0 hO0 hNl
  rw [← hW0]
  clear hW0 hob
  have hM0 := MovT.start hr0 [ob]
  have hO0' := Hid.mk2 hO0
  clear hr0 hO0
  go_loopg [12] 8 (fun g s12 wx => ∃ (k : Nat) (S1 : List Nat), g = 8 - k ∧ k ≤ 8 ∧ s12 = .int .i64 k ∧ Hid (MovT false B rb bs c [ob] W0 S (infoPos k) wx S1) ∧ Hid (RowI wx ob c.inf k) ∧ Hid (infoPos k ≤ 8 * c.lim.1))
  case atStart => exact ⟨0, S, rfl, Nat.zero_le _, rfl, hM0, hO0', by unfold Hid; show 64 ≤ _; omega⟩
  case round =>
    obtain ⟨k, S1, hg, hkn, rfl, hM, hO, hjk⟩ := hrel
    have hG := Hid.mk2 hg
    clear hg
    have hNS1 : ob ∉ S1 := hM.out.notin hNS hNl
    have hdS : db ∉ [ob] ++ S := by simp; exact ⟨hND, hdb⟩
    have hd1 : DecF 230 wr db rb hb k0 k1 k2 i sm fr at_ := hM.out.fr.blk hd0.blk hdS
    have hc1 := hd1.blk.cell
    by_cases hlt : k < 8
    · have hlt' : (k : Int) < 8 := by omega
      have hix := info_at k hlt
      by_cases hin : infoPos (k + 1) ≤ 8 * c.lim.1
      · have hcall := hok _ _ k hM.out.rd hlt hin
        have hb := c.inf_lt k hlt
        obtain ⟨b, hbe⟩ : ∃ b, b = c.inf k := ⟨_, rfl⟩
        rw [← hbe] at hcall hb
        have hbe' := Hid.mk2 hbe
        clear hbe
        generalize infoLen k = il at *
        go_wp2_with (go_at_call 246; (with_reducible refine (hcall.out).mono ?_); rintro e w1 ⟨rfl, hm1⟩; have hO1 := Hid.mk2 (hO.out.keep hm1.1 hNS1); obtain ⟨v9, hv9, hz9⟩ := hO1.out.there k hlt; have hm1' := Hid.mk2 hm1; clear hm1)
        go_roundg (8 - (k + 1))
        case measure => have := hG.out; omega
        case rel =>
          obtain ⟨S2, hM2⟩ := hM.out.step hm1'.out
          exact ⟨k + 1, S2, rfl, hlt, by go_num, hM2.one (Fr.set _ (List.mem_singleton.2 rfl)) hNS hNl hBw, hO1.out.set hlt _ (by rw [hbe'.out]), hin⟩
      · have hcall := hnot _ _ k hM.out.rd hlt (by omega)
        have h42 : Hid (c.lim.1 < 42) := by have := (infoPos_succ k hlt).2.2.1; unfold Hid; omega
        generalize infoLen k = il at *
        go_wp2_with (go_at_call 246; (with_reducible refine (hcall.out).mono ?_); rintro e w1 ⟨rfl, hm1⟩)
        go_ret
        obtain ⟨S2, hM2⟩ := hM.out.step hm1
        exact ⟨_, S2, i, sm, hM2.fresh1 hF0 hobw.out [db], hM2.fr.blk hd0.blk hdS, .inl ⟨h42.out, rfl⟩⟩
    · obtain rfl : k = 8 := by omega
      have hlt' : ¬ (8 : Int) < 8 := by decide
      have h208 : MovT false B rb bs c [ob] W0 S 208 wr S1 := hM.out
      have hdS1 : db ∉ S1 := h208.notin hdb (by have := hF0.size; omega)
      have h26 : 26 ≤ c.lim.1 := by have := hjk.out; unfold infoPos at this; simp at this; omega
      by_cases h42 : 42 ≤ c.lim.1
      · have hcall := htx _ _ hd1 h208.rd hdS1 h42
        simp only [Nat.reduceAdd, Nat.reduceMul] at hcall
        obtain ⟨tx, htx'⟩ : ∃ tx, tx = c.text.extract 26 42 := ⟨_, rfl⟩
        rw [← htx'] at hcall
        obtain ⟨x0, hx0⟩ : ∃ x, Hid (x = c.inf 0) := ⟨_, rfl⟩
        have hxl0 := c.inf_lt 0 (by decide)
        rw [← hx0.out] at hxl0
        obtain ⟨x1, hx1⟩ : ∃ x, Hid (x = c.inf 1) := ⟨_, rfl⟩
        have hxl1 := c.inf_lt 1 (by decide)
        rw [← hx1.out] at hxl1
        obtain ⟨x2, hx2⟩ : ∃ x, Hid (x = c.inf 2) := ⟨_, rfl⟩
        have hxl2 := c.inf_lt 2 (by decide)
        rw [← hx2.out] at hxl2
        obtain ⟨x3, hx3⟩ : ∃ x, Hid (x = c.inf 3) := ⟨_, rfl⟩
        have hxl3 := c.inf_lt 3 (by decide)
        rw [← hx3.out] at hxl3
        obtain ⟨x4, hx4⟩ : ∃ x, Hid (x = c.inf 4) := ⟨_, rfl⟩
        have hxl4 := c.inf_lt 4 (by decide)
        rw [← hx4.out] at hxl4
        obtain ⟨x5, hx5⟩ : ∃ x, Hid (x = c.inf 5) := ⟨_, rfl⟩
        have hxl5 := c.inf_lt 5 (by decide)
        rw [← hx5.out] at hxl5
        obtain ⟨x6, hx6⟩ : ∃ x, Hid (x = c.inf 6) := ⟨_, rfl⟩
        have hxl6 := c.inf_lt 6 (by decide)
        rw [← hx6.out] at hxl6
        obtain ⟨x7, hx7⟩ : ∃ x, Hid (x = c.inf 7) := ⟨_, rfl⟩
        have hxl7 := c.inf_lt 7 (by decide)
        rw [← hx7.out] at hxl7
        have hib : c.infoBad = (decide (x0 < 16) || decide (x1 < x0) || decide (4096 < x1) || decide (x6 + 1 < 4) || decide (x4 = 0)) := by unfold Cfg.infoBad; rw [← hx0.out, ← hx1.out, ← hx4.out, ← hx6.out]
        have hX : Hid (c.infI 0 = x0 ∧ c.infI 1 = x1 ∧ c.infI 2 = x2 ∧ c.infI 3 = x3 ∧ c.infI 4 = x4 ∧ c.infI 5 = (x5 : Int) + 1 ∧ c.infI 6 = (x6 : Int) + 1 ∧ c.infI 7 = x7 ∧ c.text.extract 26 42 = tx) := by
          unfold Hid Cfg.infI
          rw [hx0.out, hx1.out, hx2.out, hx3.out, hx4.out, hx5.out, hx6.out, hx7.out, htx']
          exact ⟨rfl, rfl, rfl, rfl, rfl, rfl, rfl, rfl, rfl⟩
        clear htx'
        have h42' := Hid.mk2 h42
        clear h42
        by_cases hbad : c.infoBad = true
        · have hbad' := Hid.mk2 hbad
          have hcs : (x0 : Int) < 16 ∨ ((¬ (x0 : Int) < 16) ∧ (x1 : Int) < (x0 : Int)) ∨ ((¬ (x0 : Int) < 16) ∧ (¬ (x1 : Int) < (x0 : Int)) ∧ (4096 : Int) < (x1 : Int)) ∨
              ((¬ (x0 : Int) < 16) ∧ (¬ (x1 : Int) < (x0 : Int)) ∧ (¬ (4096 : Int) < (x1 : Int)) ∧ ((x6 : Int) + 1) < 4) ∨ ((¬ (x0 : Int) < 16) ∧ (¬ (x1 : Int) < (x0 : Int)) ∧ (¬ (4096 : Int) < (x1 : Int)) ∧ (¬ ((x6 : Int) + 1) < 4) ∧ ((x4 : Int) == 0) = true) := by
            rw [hib] at hbad
            simp only [Bool.or_eq_true, decide_eq_true_eq] at hbad
            simp only [beq_iff_eq]; omega
          clear hib hbad
          rcases hcs with g1 | ⟨g1, g2⟩ | ⟨g1, g2, g3⟩ | ⟨g1, g2, g3, g4⟩ | ⟨g1, g2, g3, g4, g5⟩
          all_goals
            go_wp2_with (go_at_call 112; (with_reducible refine (hcall.out).mono ?_); rintro e w1 ⟨rfl, hm1⟩; have hO2 := hO.out.keep hm1.1 hNS1; have hi0 := hO2.getx 0 (by decide) hx0; have hi1 := hO2.getx 1 (by decide) hx1; have hi2 := hO2.getx 2 (by decide) hx2; have hi3 := hO2.getx 3 (by decide) hx3; have hi4 := hO2.getx 4 (by decide) hx4; have hi5 := hO2.getx 5 (by decide) hx5; have hi6 := hO2.getx 6 (by decide) hx6; have hi7 := hO2.getx 7 (by decide) hx7)
            go_ret
            obtain ⟨S2, hM2⟩ := h208.step hm1
            have hd2 : DecF 230 w1 db rb hb k0 k1 k2 i sm fr at_ := hM2.fr.blk hd0.blk hdS
            exact ⟨_, S2, i, sm, (hM2.fresh1 hF0 hobw.out [db]).also (Fr.alloc [] w1 _), hd2.blk.alloc _, .inr (.inl ⟨h42'.out, hbad'.out, rfl⟩)⟩
        · have hgood := Hid.mk2 (Bool.eq_false_iff.2 hbad)
          have hcs : (¬ (x0 : Int) < 16) ∧ (¬ (x1 : Int) < (x0 : Int)) ∧ (¬ (4096 : Int) < (x1 : Int)) ∧ (¬ ((x6 : Int) + 1) < 4) ∧ ((x4 : Int) == 0) = false := by
            rw [hib] at hbad
            simp only [Bool.or_eq_true, decide_eq_true_eq] at hbad
            simp only [beq_eq_false_iff_ne, ne_eq]; omega
          obtain ⟨g1, g2, g3, g4, g5⟩ := hcs
          clear hib hbad
          go_wp2_with (go_at_call 112; (with_reducible refine (hcall.out).mono ?_); rintro e w1 ⟨rfl, hm1⟩; have hO2 := hO.out.keep hm1.1 hNS1; have hi0 := hO2.getx 0 (by decide) hx0; have hi1 := hO2.getx 1 (by decide) hx1; have hi2 := hO2.getx 2 (by decide) hx2; have hi3 := hO2.getx 3 (by decide) hx3; have hi4 := hO2.getx 4 (by decide) hx4; have hi5 := hO2.getx 5 (by decide) hx5; have hi6 := hO2.getx 6 (by decide) hx6; have hi7 := hO2.getx 7 (by decide) hx7; have hd2 : DecF 230 w1 db rb hb k0 k1 k2 i sm fr at_ := (hm1.1.blk hd1.blk hdS1); have hc2 := hd2.blk.cell; have hz2 := hd2.blk.frozen; have hl2 := hd2.blk.lt; have hd3 := hd2.blk.alloc (.cells #[.int .i64 x0, .int .i64 x1, .int .i64 x2, .int .i64 x3, .int .i64 x4, .int .i64 ((x5 : Int) + 1), .int .i64 ((x6 : Int) + 1), .int .i64 x7, .string tx] 73); have hc3 := hd3.cell; have hz3 := hd3.frozen)
          go_ret
          obtain ⟨S2, hM2⟩ := h208.step hm1
          obtain ⟨y0, y1, y2, y3, y4, y5, y6, y7, yt⟩ := hX.out
          have D0 : Blk (w1.setCell ⟨db, 4, none⟩ (.int .i64 x0)) db #[.iface 230 (.pointer (some ⟨rb, 0, none⟩)), k0, k1, k2, .int .i64 x0, .int .i64 (i 1), .int .i64 (i 2), .int .i64 (i 3), .int .i64 (i 4), .int .i64 (i 5), .int .i64 (i 6), .int .i64 (i 7), .string sm, .pointer (some ⟨hb, 0, none⟩), .int .i64 fr, .int .i64 at_, .int .i64 0, .bool false, .nilIface] 178 := hd2.blk.set 4 _
          have D1 : Blk ((w1.setCell ⟨db, 4, none⟩ (.int .i64 x0)).setCell ⟨db, 5, none⟩ (.int .i64 x1)) db #[.iface 230 (.pointer (some ⟨rb, 0, none⟩)), k0, k1, k2, .int .i64 x0, .int .i64 x1, .int .i64 (i 2), .int .i64 (i 3), .int .i64 (i 4), .int .i64 (i 5), .int .i64 (i 6), .int .i64 (i 7), .string sm, .pointer (some ⟨hb, 0, none⟩), .int .i64 fr, .int .i64 at_, .int .i64 0, .bool false, .nilIface] 178 := D0.set 5 _
          have D2 : Blk (((w1.setCell ⟨db, 4, none⟩ (.int .i64 x0)).setCell ⟨db, 5, none⟩ (.int .i64 x1)).setCell ⟨db, 6, none⟩ (.int .i64 x2)) db #[.iface 230 (.pointer (some ⟨rb, 0, none⟩)), k0, k1, k2, .int .i64 x0, .int .i64 x1, .int .i64 x2, .int .i64 (i 3), .int .i64 (i 4), .int .i64 (i 5), .int .i64 (i 6), .int .i64 (i 7), .string sm, .pointer (some ⟨hb, 0, none⟩), .int .i64 fr, .int .i64 at_, .int .i64 0, .bool false, .nilIface] 178 := D1.set 6 _
          have D3 : Blk ((((w1.setCell ⟨db, 4, none⟩ (.int .i64 x0)).setCell ⟨db, 5, none⟩ (.int .i64 x1)).setCell ⟨db, 6, none⟩ (.int .i64 x2)).setCell ⟨db, 7, none⟩ (.int .i64 x3)) db #[.iface 230 (.pointer (some ⟨rb, 0, none⟩)), k0, k1, k2, .int .i64 x0, .int .i64 x1, .int .i64 x2, .int .i64 x3, .int .i64 (i 4), .int .i64 (i 5), .int .i64 (i 6), .int .i64 (i 7), .string sm, .pointer (some ⟨hb, 0, none⟩), .int .i64 fr, .int .i64 at_, .int .i64 0, .bool false, .nilIface] 178 := D2.set 7 _
          have D4 : Blk (((((w1.setCell ⟨db, 4, none⟩ (.int .i64 x0)).setCell ⟨db, 5, none⟩ (.int .i64 x1)).setCell ⟨db, 6, none⟩ (.int .i64 x2)).setCell ⟨db, 7, none⟩ (.int .i64 x3)).setCell ⟨db, 8, none⟩ (.int .i64 x4)) db #[.iface 230 (.pointer (some ⟨rb, 0, none⟩)), k0, k1, k2, .int .i64 x0, .int .i64 x1, .int .i64 x2, .int .i64 x3, .int .i64 x4, .int .i64 (i 5), .int .i64 (i 6), .int .i64 (i 7), .string sm, .pointer (some ⟨hb, 0, none⟩), .int .i64 fr, .int .i64 at_, .int .i64 0, .bool false, .nilIface] 178 := D3.set 8 _
          have D5 : Blk ((((((w1.setCell ⟨db, 4, none⟩ (.int .i64 x0)).setCell ⟨db, 5, none⟩ (.int .i64 x1)).setCell ⟨db, 6, none⟩ (.int .i64 x2)).setCell ⟨db, 7, none⟩ (.int .i64 x3)).setCell ⟨db, 8, none⟩ (.int .i64 x4)).setCell ⟨db, 9, none⟩ (.int .i64 ((x5 : Int) + 1))) db #[.iface 230 (.pointer (some ⟨rb, 0, none⟩)), k0, k1, k2, .int .i64 x0, .int .i64 x1, .int .i64 x2, .int .i64 x3, .int .i64 x4, .int .i64 ((x5 : Int) + 1), .int .i64 (i 6), .int .i64 (i 7), .string sm, .pointer (some ⟨hb, 0, none⟩), .int .i64 fr, .int .i64 at_, .int .i64 0, .bool false, .nilIface] 178 := D4.set 9 _
          have D6 : Blk (((((((w1.setCell ⟨db, 4, none⟩ (.int .i64 x0)).setCell ⟨db, 5, none⟩ (.int .i64 x1)).setCell ⟨db, 6, none⟩ (.int .i64 x2)).setCell ⟨db, 7, none⟩ (.int .i64 x3)).setCell ⟨db, 8, none⟩ (.int .i64 x4)).setCell ⟨db, 9, none⟩ (.int .i64 ((x5 : Int) + 1))).setCell ⟨db, 10, none⟩ (.int .i64 ((x6 : Int) + 1))) db #[.iface 230 (.pointer (some ⟨rb, 0, none⟩)), k0, k1, k2, .int .i64 x0, .int .i64 x1, .int .i64 x2, .int .i64 x3, .int .i64 x4, .int .i64 ((x5 : Int) + 1), .int .i64 ((x6 : Int) + 1), .int .i64 (i 7), .string sm, .pointer (some ⟨hb, 0, none⟩), .int .i64 fr, .int .i64 at_, .int .i64 0, .bool false, .nilIface] 178 := D5.set 10 _
          have D7 : Blk ((((((((w1.setCell ⟨db, 4, none⟩ (.int .i64 x0)).setCell ⟨db, 5, none⟩ (.int .i64 x1)).setCell ⟨db, 6, none⟩ (.int .i64 x2)).setCell ⟨db, 7, none⟩ (.int .i64 x3)).setCell ⟨db, 8, none⟩ (.int .i64 x4)).setCell ⟨db, 9, none⟩ (.int .i64 ((x5 : Int) + 1))).setCell ⟨db, 10, none⟩ (.int .i64 ((x6 : Int) + 1))).setCell ⟨db, 11, none⟩ (.int .i64 x7)) db #[.iface 230 (.pointer (some ⟨rb, 0, none⟩)), k0, k1, k2, .int .i64 x0, .int .i64 x1, .int .i64 x2, .int .i64 x3, .int .i64 x4, .int .i64 ((x5 : Int) + 1), .int .i64 ((x6 : Int) + 1), .int .i64 x7, .string sm, .pointer (some ⟨hb, 0, none⟩), .int .i64 fr, .int .i64 at_, .int .i64 0, .bool false, .nilIface] 178 := D6.set 11 _
          have D8 : Blk (((((((((w1.setCell ⟨db, 4, none⟩ (.int .i64 x0)).setCell ⟨db, 5, none⟩ (.int .i64 x1)).setCell ⟨db, 6, none⟩ (.int .i64 x2)).setCell ⟨db, 7, none⟩ (.int .i64 x3)).setCell ⟨db, 8, none⟩ (.int .i64 x4)).setCell ⟨db, 9, none⟩ (.int .i64 ((x5 : Int) + 1))).setCell ⟨db, 10, none⟩ (.int .i64 ((x6 : Int) + 1))).setCell ⟨db, 11, none⟩ (.int .i64 x7)).setCell ⟨db, 12, none⟩ (.string tx)) db #[.iface 230 (.pointer (some ⟨rb, 0, none⟩)), k0, k1, k2, .int .i64 x0, .int .i64 x1, .int .i64 x2, .int .i64 x3, .int .i64 x4, .int .i64 ((x5 : Int) + 1), .int .i64 ((x6 : Int) + 1), .int .i64 x7, .string tx, .pointer (some ⟨hb, 0, none⟩), .int .i64 fr, .int .i64 at_, .int .i64 0, .bool false, .nilIface] 178 := D7.set 12 _
          have hM3 := ((hM2.fresh1 hF0 hobw.out [db]).one (fr9' db _ (.int .i64 x0) (.int .i64 x1) (.int .i64 x2) (.int .i64 x3) (.int .i64 x4) (.int .i64 ((x5 : Int) + 1)) (.int .i64 ((x6 : Int) + 1)) (.int .i64 x7) (.string tx)) hdb hdl hB).also (Fr.alloc [] _ (.cells #[.int .i64 x0, .int .i64 x1, .int .i64 x2, .int .i64 x3, .int .i64 x4, .int .i64 ((x5 : Int) + 1), .int .i64 ((x6 : Int) + 1), .int .i64 x7, .string tx] 73))
          refine ⟨_, S2, c.infI, _, hM3, ?_, .inr (.inr ⟨h42'.out, hgood.out, rfl, rfl, rfl, rfl⟩)⟩
          unfold DecF
          rw [y0, y1, y2, y3, y4, y5, y6, y7, yt]
          exact D8.alloc _
      · have hcall := htn _ _ hd1 h208.rd hdS1 h26 (by omega)
        go_wp2_with (go_at_call 112; (with_reducible refine (hcall.out).mono ?_); rintro e w1 ⟨rfl, p1, hm1⟩)
        go_ret
        obtain ⟨S2, hM2⟩ := h208.step hm1
        exact ⟨_, S2, i, sm, hM2.fresh1 hF0 hobw.out [db], hM2.fr.blk hd0.blk hdS, .inl ⟨by omega, rfl⟩⟩

set_option maxRecDepth 100000 in
set_option maxHeartbeats 4000000 in
theorem stream_any_q {B : Nat} {w : World} {db rb bs hb : Nat} {k0 k1 k2 : Value} {i : Nat → Int} {sm : ByteArray} {fr at_ : Int} {c : Cfg} {S : List Nat} (hk : LimOk c) (hd : DecF 233 w db rb hb k0 k1 k2 i sm fr at_) (h : RdS true B w rb bs c 64 S) (hdb : db ∉ S) (hB : B ≤ db) (h8 : 8 ≤ c.lim.1) :
    Calls Tryz.prog 137 #[.pointer (some ⟨db, 0, none⟩)] w (StreamPost true 233 B db rb bs hb k0 k1 k2 fr at_ c S w) := by
  have hm : ∀ (a : Addr) (w : World), (Go.method 464 233 (.pointer (some a)) "Read").run Tryz.prog w = .ok (255, .pointer (some a)) w := fun a w => by kernel_rfl
  have hwe := (wantE_ne hk.stop).1
  obtain ⟨hh, hlf⟩ := errV_leaf hwe
  have hln := hlf.nnil
  have hok := fun W S1 k (hr : RdS true B W rb bs c (infoPos k) S1) (hk8 : k < 8) (hin : infoPos (k + 1) ≤ 8 * c.lim.1) => Hid.mk2 (show Calls Tryz.prog 255 #[.pointer (some ⟨rb, 0, none⟩), .int .i64 (infoLen k)] W fun e w' => e = .returned (.tuple #[.int .u64 (c.inf k), .nilIface]) ∧ Moved (RdS true B · rb bs c) W S1 (infoPos (k + 1)) w' from rdInf_ok (q := true) hr hk8 hin)
  have hnot := fun W S1 k (hr : RdS true B W rb bs c (infoPos k) S1) (hk8 : k < 8) (hin : 8 * c.lim.1 < infoPos (k + 1)) => Hid.mk2 (show Calls Tryz.prog 255 #[.pointer (some ⟨rb, 0, none⟩), .int .i64 (infoLen k)] W fun e w' => e = .returned (.tuple #[.int .u64 0, .iface (errT (wantE c.lim.2)) (.int .i64 (errN (wantE c.lim.2)))]) ∧ Moved (RdS true B · rb bs c) W S1 (infoPos k) w' from rdInf_not (q := true) hr hk8 hin hwe)
  have htx := fun W S1 (hd : DecF 233 W db rb hb k0 k1 k2 i sm fr at_) (hr : RdS true B W rb bs c 208 S1) (hdb : db ∉ S1) (hin : 26 + 16 ≤ c.lim.1) => Hid.mk2 (bytes_ok_q (j := 26) (n := 16) hk hd hr rfl hdb (by decide) hin (z := 16) rfl)
  have htn := fun W S1 (hd : DecF 233 W db rb hb k0 k1 k2 i sm fr at_) (hr : RdS true B W rb bs c 208 S1) (hdb : db ∉ S1) (hj : 26 ≤ c.lim.1) (hin : c.lim.1 < 26 + 16) => Hid.mk2 (bytes_not_q (j := 26) (n := 16) hk hd hr rfl hdb (by decide) hj hin (z := 16) rfl)
  unfold StreamPost
  generalize errT (wantE c.lim.2) = et at *
  generalize errN (wantE c.lim.2) = en at *
  have hF0 := Fr.alloc [] w (.cells #[.int .i64 0, .int .i64 0, .int .i64 0, .int .i64 0, .int .i64 0, .int .i64 0, .int .i64 0, .int .i64 0] 291)
  have hr0 := h.still hF0
  have hd0 : DecF 233 (w.alloc (.cells #[.int .i64 0, .int .i64 0, .int .i64 0, .int .i64 0, .int .i64 0, .int .i64 0, .int .i64 0, .int .i64 0] 291)) db rb hb k0 k1 k2 i sm fr at_ := hF0.blk hd.blk (by simp)
  have hO0 := RowI.made w c.inf
  have hall := h.all
  have hBw : B ≤ w.heap.size := by
    obtain ⟨_, _, _, _, _, _, _, _, _, h1, h2, _⟩ := h.feed
    omega
  have hNS : w.heap.size ∉ S := fun hx => by have := (hall _ hx).2; omega
  have hND : db ≠ w.heap.size := Nat.ne_of_lt hd.blk.lt
  have hdl := hd.blk.lt
  clear hlf hwe hall
  go_enter Tryz.func137, Tryz.ntmps137
  go_wp2_with fail
  have hNl : w.heap.size < (w.alloc (.cells #[.int .i64 0, .int .i64 0, .int .i64 0, .int .i64 0, .int .i64 0, .int .i64 0, .int .i64 0, .int .i64 0] 291)).heap.size := by simp
  obtain ⟨W0, hW0⟩ : ∃ W0, W0 = w.alloc (.cells #[.int .i64 0, .int .i64 0, .int .i64 0, .int .i64 0, .int .i64 0, .int .i64 0, .int .i64 0, .int .i64 0] 291) := ⟨_, rfl⟩
  obtain ⟨ob, hob⟩ : ∃ ob, ob = w.heap.size := ⟨_, rfl⟩
  have hobw : Hid (w.heap.size ≤ ob) := Nat.le_of_eq hob.symm
  rw [← hob] at hO0 hNS hND hNl hBw
  rw [← hob]
  rw [← hW0] at hF0 hr0 hd0 hO0 hNl
  rw [← hW0]
  clear hW0 hob
  have hM0 := MovT.start hr0 [ob]
  have hO0' := Hid.mk2 hO0
  clear hr0 hO0
  go_loopg [12] 8 (fun g s12 wx => ∃ (k : Nat) (S1 : List Nat), g = 8 - k ∧ k ≤ 8 ∧ s12 = .int .i64 k ∧ Hid (MovT true B rb bs c [ob] W0 S (infoPos k) wx S1) ∧ Hid (RowI wx ob c.inf k) ∧ Hid (infoPos k ≤ 8 * c.lim.1))
  case atStart => exact ⟨0, S, rfl, Nat.zero_le _, rfl, hM0, hO0', by unfold Hid; show 64 ≤ _; omega⟩
  case round =>
    obtain ⟨k, S1, hg, hkn, rfl, hM, hO, hjk⟩ := hrel
    have hG := Hid.mk2 hg
    clear hg
    have hNS1 : ob ∉ S1 := hM.out.notin hNS hNl
    have hdS : db ∉ [ob] ++ S := by simp; exact ⟨hND, hdb⟩
    have hd1 : DecF 233 wr db rb hb k0 k1 k2 i sm fr at_ := hM.out.fr.blk hd0.blk hdS
    have hc1 := hd1.blk.cell
    by_cases hlt : k < 8
    · have hlt' : (k : Int) < 8 := by omega
      have hix := info_at k hlt
      by_cases hin : infoPos (k + 1) ≤ 8 * c.lim.1
      · have hcall := hok _ _ k hM.out.rd hlt hin
        have hb := c.inf_lt k hlt
        obtain ⟨b, hbe⟩ : ∃ b, b = c.inf k := ⟨_, rfl⟩
        rw [← hbe] at hcall hb
        have hbe' := Hid.mk2 hbe
        clear hbe
        generalize infoLen k = il at *
        go_wp2_with (go_at_call 255; (with_reducible refine (hcall.out).mono ?_); rintro e w1 ⟨rfl, hm1⟩; have hO1 := Hid.mk2 (hO.out.keep hm1.1 hNS1); obtain ⟨v9, hv9, hz9⟩ := hO1.out.there k hlt; have hm1' := Hid.mk2 hm1; clear hm1)
        go_roundg (8 - (k + 1))
        case measure => have := hG.out; omega
        case rel =>
          obtain ⟨S2, hM2⟩ := hM.out.step hm1'.out
          exact ⟨k + 1, S2, rfl, hlt, by go_num, hM2.one (Fr.set _ (List.mem_singleton.2 rfl)) hNS hNl hBw, hO1.out.set hlt _ (by rw [hbe'.out]), hin⟩
      · have hcall := hnot _ _ k hM.out.rd hlt (by omega)
        have h42 : Hid (c.lim.1 < 42) := by have := (infoPos_succ k hlt).2.2.1; unfold Hid; omega
        generalize infoLen k = il at *
        go_wp2_with (go_at_call 255; (with_reducible refine (hcall.out).mono ?_); rintro e w1 ⟨rfl, hm1⟩)
        go_ret
        obtain ⟨S2, hM2⟩ := hM.out.step hm1
        exact ⟨_, S2, i, sm, hM2.fresh1 hF0 hobw.out [db], hM2.fr.blk hd0.blk hdS, .inl ⟨h42.out, rfl⟩⟩
    · obtain rfl : k = 8 := by omega
      have hlt' : ¬ (8 : Int) < 8 := by decide
      have h208 : MovT true B rb bs c [ob] W0 S 208 wr S1 := hM.out
      have hdS1 : db ∉ S1 := h208.notin hdb (by have := hF0.size; omega)
      have h26 : 26 ≤ c.lim.1 := by have := hjk.out; unfold infoPos at this; simp at this; omega
      by_cases h42 : 42 ≤ c.lim.1
      · have hcall := htx _ _ hd1 h208.rd hdS1 h42
        simp only [Nat.reduceAdd, Nat.reduceMul] at hcall
        obtain ⟨tx, htx'⟩ : ∃ tx, tx = c.text.extract 26 42 := ⟨_, rfl⟩
        rw [← htx'] at hcall
        obtain ⟨x0, hx0⟩ : ∃ x, Hid (x = c.inf 0) := ⟨_, rfl⟩
        have hxl0 := c.inf_lt 0 (by decide)
        rw [← hx0.out] at hxl0
        obtain ⟨x1, hx1⟩ : ∃ x, Hid (x = c.inf 1) := ⟨_, rfl⟩
        have hxl1 := c.inf_lt 1 (by decide)
        rw [← hx1.out] at hxl1
        obtain ⟨x2, hx2⟩ : ∃ x, Hid (x = c.inf 2) := ⟨_, rfl⟩
        have hxl2 := c.inf_lt 2 (by decide)
        rw [← hx2.out] at hxl2
        obtain ⟨x3, hx3⟩ : ∃ x, Hid (x = c.inf 3) := ⟨_, rfl⟩
        have hxl3 := c.inf_lt 3 (by decide)
        rw [← hx3.out] at hxl3
        obtain ⟨x4, hx4⟩ : ∃ x, Hid (x = c.inf 4) := ⟨_, rfl⟩
        have hxl4 := c.inf_lt 4 (by decide)
        rw [← hx4.out] at hxl4
        obtain ⟨x5, hx5⟩ : ∃ x, Hid (x = c.inf 5) := ⟨_, rfl⟩
        have hxl5 := c.inf_lt 5 (by decide)
        rw [← hx5.out] at hxl5
        obtain ⟨x6, hx6⟩ : ∃ x, Hid (x = c.inf 6) := ⟨_, rfl⟩
        have hxl6 := c.inf_lt 6 (by decide)
        rw [← hx6.out] at hxl6
        obtain ⟨x7, hx7⟩ : ∃ x, Hid (x = c.inf 7) := ⟨_, rfl⟩
        have hxl7 := c.inf_lt 7 (by decide)
        rw [← hx7.out] at hxl7
        have hib : c.infoBad = (decide (x0 < 16) || decide (x1 < x0) || decide (4096 < x1) || decide (x6 + 1 < 4) || decide (x4 = 0)) := by unfold Cfg.infoBad; rw [← hx0.out, ← hx1.out, ← hx4.out, ← hx6.out]
        have hX : Hid (c.infI 0 = x0 ∧ c.infI 1 = x1 ∧ c.infI 2 = x2 ∧ c.infI 3 = x3 ∧ c.infI 4 = x4 ∧ c.infI 5 = (x5 : Int) + 1 ∧ c.infI 6 = (x6 : Int) + 1 ∧ c.infI 7 = x7 ∧ c.text.extract 26 42 = tx) := by
          unfold Hid Cfg.infI
          rw [hx0.out, hx1.out, hx2.out, hx3.out, hx4.out, hx5.out, hx6.out, hx7.out, htx']
          exact ⟨rfl, rfl, rfl, rfl, rfl, rfl, rfl, rfl, rfl⟩
        clear htx'
        have h42' := Hid.mk2 h42
        clear h42
        by_cases hbad : c.infoBad = true
        · have hbad' := Hid.mk2 hbad
          have hcs : (x0 : Int) < 16 ∨ ((¬ (x0 : Int) < 16) ∧ (x1 : Int) < (x0 : Int)) ∨ ((¬ (x0 : Int) < 16) ∧ (¬ (x1 : Int) < (x0 : Int)) ∧ (4096 : Int) < (x1 : Int)) ∨
              ((¬ (x0 : Int) < 16) ∧ (¬ (x1 : Int) < (x0 : Int)) ∧ (¬ (4096 : Int) < (x1 : Int)) ∧ ((x6 : Int) + 1) < 4) ∨ ((¬ (x0 : Int) < 16) ∧ (¬ (x1 : Int) < (x0 : Int)) ∧ (¬ (4096 : Int) < (x1 : Int)) ∧ (¬ ((x6 : Int) + 1) < 4) ∧ ((x4 : Int) == 0) = true) := by
            rw [hib] at hbad
            simp only [Bool.or_eq_true, decide_eq_true_eq] at hbad
            simp only [beq_iff_eq]; omega
          clear hib hbad
          rcases hcs with g1 | ⟨g1, g2⟩ | ⟨g1, g2, g3⟩ | ⟨g1, g2, g3, g4⟩ | ⟨g1, g2, g3, g4, g5⟩
          all_goals
            go_wp2_with (go_at_call 112; (with_reducible refine (hcall.out).mono ?_); rintro e w1 ⟨rfl, hm1⟩; have hO2 := hO.out.keep hm1.1 hNS1; have hi0 := hO2.getx 0 (by decide) hx0; have hi1 := hO2.getx 1 (by decide) hx1; have hi2 := hO2.getx 2 (by decide) hx2; have hi3 := hO2.getx 3 (by decide) hx3; have hi4 := hO2.getx 4 (by decide) hx4; have hi5 := hO2.getx 5 (by decide) hx5; have hi6 := hO2.getx 6 (by decide) hx6; have hi7 := hO2.getx 7 (by decide) hx7)
            go_ret
            obtain ⟨S2, hM2⟩ := h208.step hm1
            have hd2 : DecF 233 w1 db rb hb k0 k1 k2 i sm fr at_ := hM2.fr.blk hd0.blk hdS
            exact ⟨_, S2, i, sm, (hM2.fresh1 hF0 hobw.out [db]).also (Fr.alloc [] w1 _), hd2.blk.alloc _, .inr (.inl ⟨h42'.out, hbad'.out, rfl⟩)⟩
        · have hgood := Hid.mk2 (Bool.eq_false_iff.2 hbad)
          have hcs : (¬ (x0 : Int) < 16) ∧ (¬ (x1 : Int) < (x0 : Int)) ∧ (¬ (4096 : Int) < (x1 : Int)) ∧ (¬ ((x6 : Int) + 1) < 4) ∧ ((x4 : Int) == 0) = false := by
            rw [hib] at hbad
            simp only [Bool.or_eq_true, decide_eq_true_eq] at hbad
            simp only [beq_eq_false_iff_ne, ne_eq]; omega
          obtain ⟨g1, g2, g3, g4, g5⟩ := hcs
          clear hib hbad
          go_wp2_with (go_at_call 112; (with_reducible refine (hcall.out).mono ?_); rintro e w1 ⟨rfl, hm1⟩; have hO2 := hO.out.keep hm1.1 hNS1; have hi0 := hO2.getx 0 (by decide) hx0; have hi1 := hO2.getx 1 (by decide) hx1; have hi2 := hO2.getx 2 (by decide) hx2; have hi3 := hO2.getx 3 (by decide) hx3; have hi4 := hO2.getx 4 (by decide) hx4; have hi5 := hO2.getx 5 (by decide) hx5; have hi6 := hO2.getx 6 (by decide) hx6; have hi7 := hO2.getx 7 (by decide) hx7; have hd2 : DecF 233 w1 db rb hb k0 k1 k2 i sm fr at_ := (hm1.1.blk hd1.blk hdS1); have hc2 := hd2.blk.cell; have hz2 := hd2.blk.frozen; have hl2 := hd2.blk.lt; have hd3 := hd2.blk.alloc (.cells #[.int .i64 x0, .int .i64 x1, .int .i64 x2, .int .i64 x3, .int .i64 x4, .int .i64 ((x5 : Int) + 1), .int .i64 ((x6 : Int) + 1), .int .i64 x7, .string tx] 73); have hc3 := hd3.cell; have hz3 := hd3.frozen)
          go_ret
          obtain ⟨S2, hM2⟩ := h208.step hm1
          obtain ⟨y0, y1, y2, y3, y4, y5, y6, y7, yt⟩ := hX.out
          have D0 : Blk (w1.setCell ⟨db, 4, none⟩ (.int .i64 x0)) db #[.iface 233 (.pointer (some ⟨rb, 0, none⟩)), k0, k1, k2, .int .i64 x0, .int .i64 (i 1), .int .i64 (i 2), .int .i64 (i 3), .int .i64 (i 4), .int .i64 (i 5), .int .i64 (i 6), .int .i64 (i 7), .string sm, .pointer (some ⟨hb, 0, none⟩), .int .i64 fr, .int .i64 at_, .int .i64 0, .bool false, .nilIface] 178 := hd2.blk.set 4 _
          have D1 : Blk ((w1.setCell ⟨db, 4, none⟩ (.int .i64 x0)).setCell ⟨db, 5, none⟩ (.int .i64 x1)) db #[.iface 233 (.pointer (some ⟨rb, 0, none⟩)), k0, k1, k2, .int .i64 x0, .int .i64 x1, .int .i64 (i 2), .int .i64 (i 3), .int .i64 (i 4), .int .i64 (i 5), .int .i64 (i 6), .int .i64 (i 7), .string sm, .pointer (some ⟨hb, 0, none⟩), .int .i64 fr, .int .i64 at_, .int .i64 0, .bool false, .nilIface] 178 := D0.set 5 _
          have D2 : Blk (((w1.setCell ⟨db, 4, none⟩ (.int .i64 x0)).setCell ⟨db, 5, none⟩ (.int .i64 x1)).setCell ⟨db, 6, none⟩ (.int .i64 x2)) db #[.iface 233 (.pointer (some ⟨rb, 0, none⟩)), k0, k1, k2, .int .i64 x0, .int .i64 x1, .int .i64 x2, .int .i64 (i 3), .int .i64 (i 4), .int .i64 (i 5), .int .i64 (i 6), .int .i64 (i 7), .string sm, .pointer (some ⟨hb, 0, none⟩), .int .i64 fr, .int .i64 at_, .int .i64 0, .bool false, .nilIface] 178 := D1.set 6 _
          have D3 : Blk ((((w1.setCell ⟨db, 4, none⟩ (.int .i64 x0)).setCell ⟨db, 5, none⟩ (.int .i64 x1)).setCell ⟨db, 6, none⟩ (.int .i64 x2)).setCell ⟨db, 7, none⟩ (.int .i64 x3)) db #[.iface 233 (.pointer (some ⟨rb, 0, none⟩)), k0, k1, k2, .int .i64 x0, .int .i64 x1, .int .i64 x2, .int .i64 x3, .int .i64 (i 4), .int .i64 (i 5), .int .i64 (i 6), .int .i64 (i 7), .string sm, .pointer (some ⟨hb, 0, none⟩), .int .i64 fr, .int .i64 at_, .int .i64 0, .bool false, .nilIface] 178 := D2.set 7 _
          have D4 : Blk (((((w1.setCell ⟨db, 4, none⟩ (.int .i64 x0)).setCell ⟨db, 5, none⟩ (.int .i64 x1)).setCell ⟨db, 6, none⟩ (.int .i64 x2)).setCell ⟨db, 7, none⟩ (.int .i64 x3)).setCell ⟨db, 8, none⟩ (.int .i64 x4)) db #[.iface 233 (.pointer (some ⟨rb, 0, none⟩)), k0, k1, k2, .int .i64 x0, .int .i64 x1, .int .i64 x2, .int .i64 x3, .int .i64 x4, .int .i64 (i 5), .int .i64 (i 6), .int .i64 (i 7), .string sm, .pointer (some ⟨hb, 0, none⟩), .int .i64 fr, .int .i64 at_, .int .i64 0, .bool false, .nilIface] 178 := D3.set 8 _
          have D5 : Blk ((((((w1.setCell ⟨db, 4, none⟩ (.int .i64 x0)).setCell ⟨db, 5, none⟩ (.int .i64 x1)).setCell ⟨db, 6, none⟩ (.int .i64 x2)).setCell ⟨db, 7, none⟩ (.int .i64 x3)).setCell ⟨db, 8, none⟩ (.int .i64 x4)).setCell ⟨db, 9, none⟩ (.int .i64 ((x5 : Int) + 1))) db #[.iface 233 (.pointer (some ⟨rb, 0, none⟩)), k0, k1, k2, .int .i64 x0, .int .i64 x1, .int .i64 x2, .int .i64 x3, .int .i64 x4, .int .i64 ((x5 : Int) + 1), .int .i64 (i 6), .int .i64 (i 7), .string sm, .pointer (some ⟨hb, 0, none⟩), .int .i64 fr, .int .i64 at_, .int .i64 0, .bool false, .nilIface] 178 := D4.set 9 _
          have D6 : Blk (((((((w1.setCell ⟨db, 4, none⟩ (.int .i64 x0)).setCell ⟨db, 5, none⟩ (.int .i64 x1)).setCell ⟨db, 6, none⟩ (.int .i64 x2)).setCell ⟨db, 7, none⟩ (.int .i64 x3)).setCell ⟨db, 8, none⟩ (.int .i64 x4)).setCell ⟨db, 9, none⟩ (.int .i64 ((x5 : Int) + 1))).setCell ⟨db, 10, none⟩ (.int .i64 ((x6 : Int) + 1))) db #[.iface 233 (.pointer (some ⟨rb, 0, none⟩)), k0, k1, k2, .int .i64 x0, .int .i64 x1, .int .i64 x2, .int .i64 x3, .int .i64 x4, .int .i64 ((x5 : Int) + 1), .int .i64 ((x6 : Int) + 1), .int .i64 (i 7), .string sm, .pointer (some ⟨hb, 0, none⟩), .int .i64 fr, .int .i64 at_, .int .i64 0, .bool false, .nilIface] 178 := D5.set 10 _
          have D7 : Blk ((((((((w1.setCell ⟨db, 4, none⟩ (.int .i64 x0)).setCell ⟨db, 5, none⟩ (.int .i64 x1)).setCell ⟨db, 6, none⟩ (.int .i64 x2)).setCell ⟨db, 7, none⟩ (.int .i64 x3)).setCell ⟨db, 8, none⟩ (.int .i64 x4)).setCell ⟨db, 9, none⟩ (.int .i64 ((x5 : Int) + 1))).setCell ⟨db, 10, none⟩ (.int .i64 ((x6 : Int) + 1))).setCell ⟨db, 11, none⟩ (.int .i64 x7)) db #[.iface 233 (.pointer (some ⟨rb, 0, none⟩)), k0, k1, k2, .int .i64 x0, .int .i64 x1, .int .i64 x2, .int .i64 x3, .int .i64 x4, .int .i64 ((x5 : Int) + 1), .int .i64 ((x6 : Int) + 1), .int .i64 x7, .string sm, .pointer (some ⟨hb, 0, none⟩), .int .i64 fr, .int .i64 at_, .int .i64 0, .bool false, .nilIface] 178 := D6.set 11 _
          have D8 : Blk (((((((((w1.setCell ⟨db, 4, none⟩ (.int .i64 x0)).setCell ⟨db, 5, none⟩ (.int .i64 x1)).setCell ⟨db, 6, none⟩ (.int .i64 x2)).setCell ⟨db, 7, none⟩ (.int .i64 x3)).setCell ⟨db, 8, none⟩ (.int .i64 x4)).setCell ⟨db, 9, none⟩ (.int .i64 ((x5 : Int) + 1))).setCell ⟨db, 10, none⟩ (.int .i64 ((x6 : Int) + 1))).setCell ⟨db, 11, none⟩ (.int .i64 x7)).setCell ⟨db, 12, none⟩ (.string tx)) db #[.iface 233 (.pointer (some ⟨rb, 0, none⟩)), k0, k1, k2, .int .i64 x0, .int .i64 x1, .int .i64 x2, .int .i64 x3, .int .i64 x4, .int .i64 ((x5 : Int) + 1), .int .i64 ((x6 : Int) + 1), .int .i64 x7, .string tx, .pointer (some ⟨hb, 0, none⟩), .int .i64 fr, .int .i64 at_, .int .i64 0, .bool false, .nilIface] 178 := D7.set 12 _
          have hM3 := ((hM2.fresh1 hF0 hobw.out [db]).one (fr9' db _ (.int .i64 x0) (.int .i64 x1) (.int .i64 x2) (.int .i64 x3) (.int .i64 x4) (.int .i64 ((x5 : Int) + 1)) (.int .i64 ((x6 : Int) + 1)) (.int .i64 x7) (.string tx)) hdb hdl hB).also (Fr.alloc [] _ (.cells #[.int .i64 x0, .int .i64 x1, .int .i64 x2, .int .i64 x3, .int .i64 x4, .int .i64 ((x5 : Int) + 1), .int .i64 ((x6 : Int) + 1), .int .i64 x7, .string tx] 73))
          refine ⟨_, S2, c.infI, _, hM3, ?_, .inr (.inr ⟨h42'.out, hgood.out, rfl, rfl, rfl, rfl⟩)⟩
          unfold DecF
          rw [y0, y1, y2, y3, y4, y5, y6, y7, yt]
          exact D8.alloc _
      · have hcall := htn _ _ hd1 h208.rd hdS1 h26 (by omega)
        go_wp2_with (go_at_call 112; (with_reducible refine (hcall.out).mono ?_); rintro e w1 ⟨rfl, p1, hm1⟩)
        go_ret
        obtain ⟨S2, hM2⟩ := h208.step hm1
        exact ⟨_, S2, i, sm, hM2.fresh1 hF0 hobw.out [db], hM2.fr.blk hd0.blk hdS, .inl ⟨by omega, rfl⟩⟩

end Go.Proofs.YthigfpaajbejdaaGreatDoor
