/-
  feed.Mark, walked; both readers' Mark, as the interface finds it.
-/
/-
  flac.decoder.block, walked: a block of metadata that is passed over.
-/
import Derived.Test.YthigfpaajbejdaaGreatDoorFastRead
import Derived.Test.YthigfpaajbejdaaGreatDoorDecStream
namespace Go.Proofs.YthigfpaajbejdaaGreatDoor
open Go.RowKit

theorem mark_any {B : Nat} {w : World} {fb bs : Nat} {c : Cfg} {tk ft left k err emp : Nat} {v : Value} {xs : List Value} (h : FeedV B w fb bs c tk ft left k err emp v xs) :
    Calls Tryz.prog 239 #[.pointer (some ⟨fb, 0, none⟩)] w fun e w' => e = .returned (.tuple #[]) ∧ FeedV B w' fb bs c tk ft left k err emp (.slice none 0 0) [] ∧ Fr [fb] w w' := by
  have hc := h.blk.cell
  have hz := h.blk.frozen
  go_enter Tryz.func239, Tryz.ntmps239
  go_wp2_with fail
  go_end0
  have hF : Fr [fb] w (w.setCell ⟨fb, 3, none⟩ (.slice none 0 0)) := Fr.set _ (List.mem_singleton.2 rfl)
  have hne : bs ∉ [fb] := by
    obtain ⟨a, cap, hb, _⟩ := h.src.row
    simpa using hb.ne h.blk (by decide)
  exact ⟨rfl, ⟨h.blk.set 3 _, h.src.keep hF hne (by simpa using h.above), ⟨rfl, .inl ⟨rfl, rfl⟩⟩, h.above, h.le, h.goes, h.errok, Nat.zero_le _⟩, hF⟩
theorem mark_meth_s {w : World} {rb fb : Nat} (h : w.cell? ⟨rb, 0, none⟩ = some (.pointer (some ⟨fb, 0, none⟩))) : (Go.method 464 230 (.pointer (some ⟨rb, 0, none⟩)) "Mark").run Tryz.prog w = .ok (239, .pointer (some ⟨fb, 0, none⟩)) w := by
  have h1 : (Go.method 464 230 (.pointer (some ⟨rb, 0, none⟩)) "Mark").run Tryz.prog w = (load ⟨rb, 0, none⟩ >>= fun v => (pure (239, v) : Sem (FuncId × Value))).run Tryz.prog w := by kernel_rfl
  rw [h1]
  simp [Sem.run_bind, Result.andThen, h]

theorem mark_meth_q {w : World} {rb fb : Nat} (h : w.cell? ⟨rb, 0, none⟩ = some (.pointer (some ⟨fb, 0, none⟩))) : (Go.method 464 233 (.pointer (some ⟨rb, 0, none⟩)) "Mark").run Tryz.prog w = .ok (239, .pointer (some ⟨fb, 0, none⟩)) w := by
  have h1 : (Go.method 464 233 (.pointer (some ⟨rb, 0, none⟩)) "Mark").run Tryz.prog w = (load ⟨rb, 0, none⟩ >>= fun v => (pure (239, v) : Sem (FuncId × Value))).run Tryz.prog w := by kernel_rfl
  rw [h1]
  simp [Sem.run_bind, Result.andThen, h]

end Go.Proofs.YthigfpaajbejdaaGreatDoor
namespace Go.Proofs.YthigfpaajbejdaaGreatDoor
open Go.RowKit

section
variable {B : Nat} {w : World} {rb bs : Nat} {c : Cfg} {p : Nat} {S : List Nat}
theorem rdMark_s (h : RdS false B w rb bs c p S) : ∃ fb, w.cell? ⟨rb, 0, none⟩ = some (.pointer (some ⟨fb, 0, none⟩)) ∧ Hid (Calls Tryz.prog 239 #[.pointer (some ⟨fb, 0, none⟩)] w fun e w' => e = .returned (.tuple #[]) ∧ Moved (RdS false B · rb bs c) w S p w') := by
  obtain ⟨fb, tk, kk, ft, left, k, err, v, xs, h, h1, h2, rfl⟩ := h
  refine ⟨fb, h.blk.cell 0, (mark_any h.feed).mono ?_⟩
  rintro e w' ⟨rfl, hv, hf⟩
  have hne := h.ne_fb
  exact ⟨rfl, hf.mono (fun x hx => .inl (by rw [List.mem_singleton] at hx; subst hx; simp)), [rb, fb, bs], ⟨fb, tk, kk, ft, left, k, err, _, _, ⟨hf.blk h.blk (by simpa using hne), hv, h.above, h.lt⟩, h1, h2, rfl⟩, fun x hx => .inl (by simp at hx ⊢; omega)⟩
theorem rdMark_q (h : RdS true B w rb bs c p S) : ∃ fb, w.cell? ⟨rb, 0, none⟩ = some (.pointer (some ⟨fb, 0, none⟩)) ∧ Hid (Calls Tryz.prog 239 #[.pointer (some ⟨fb, 0, none⟩)] w fun e w' => e = .returned (.tuple #[]) ∧ Moved (RdS true B · rb bs c) w S p w') := by
  obtain ⟨fb, tk, n, ft, left, k, err, v, xs, h, rfl⟩ := h
  refine ⟨fb, h.blk.cell 0, (mark_any h.feed).mono ?_⟩
  rintro e w' ⟨rfl, hv, hf⟩
  have hne : rb ≠ fb := h.blk.ne h.feed.blk (by decide)
  exact ⟨rfl, hf.mono (fun x hx => .inl (by rw [List.mem_singleton] at hx; subst hx; simp)), [rb, fb, bs], ⟨fb, tk, n, ft, left, k, err, _, _, ⟨hf.blk h.blk (by simpa using hne), hv, h.above, h.pos, h.n64, h.inft⟩, rfl⟩, fun x hx => .inl (by simp at hx ⊢; omega)⟩
end

theorem StreamPost.ret {q : Bool} {tv B db rb bs hb : Nat} {k0 k1 k2 : Value} {fr at_ : Int} {c : Cfg} {S : List Nat} {w : World} {e : Ending} {w' : World} (h : StreamPost q tv B db rb bs hb k0 k1 k2 fr at_ c S w e w') : ∃ v, e = .returned v := by
  obtain ⟨_, _, _, _, _, _, h1 | h1 | h1⟩ := h
  · exact ⟨_, h1.2⟩
  · exact ⟨_, h1.2.2⟩
  · exact ⟨_, h1.2.2.1⟩
/-- What block gives, where the bytes are passed over. -/
def BlockPost (q : Bool) (B rb bs : Nat) (c : Cfg) (S : List Nat) (j n : Nat) (w : World) (e : Ending) (w' : World) : Prop :=
  ∃ (p : Nat) (S1 : List Nat), MovT q B rb bs c [] w S p w' S1 ∧
  ((c.lim.1 < j + n ∧ e = .returned (.iface (errT (wantE c.lim.2)) (.int .i64 (errN (wantE c.lim.2))))) ∨ (j + n ≤ c.lim.1 ∧ e = .returned .nilIface ∧ p = 8 * (j + n)))
set_option maxRecDepth 100000 in
set_option maxHeartbeats 2000000 in
theorem block_first_s {B : Nat} {w : World} {db rb bs hb : Nat} {k0 k1 k2 : Value} {i : Nat → Int} {sm : ByteArray} {fr at_ : Int} {c : Cfg} {S : List Nat} (n : Nat) (hk : LimOk c) (hd : DecF 230 w db rb hb k0 k1 k2 i sm fr at_) (h : RdS false B w rb bs c 64 S) (hdb : db ∉ S) (hB : B ≤ db) (h8 : 8 ≤ c.lim.1) :
    Calls Tryz.prog 113 #[.pointer (some ⟨db, 0, none⟩), .int .i64 0, .int .i64 n] w (StreamPost false 230 B db rb bs hb k0 k1 k2 fr at_ c S w) := by
  have hcall := Hid.mk2 (stream_any_s hk hd h hdb hB h8)
  clear hk hd h hdb hB h8
  go_enter Tryz.func113, Tryz.ntmps113
  go_wp2_with (go_at_call 137; (with_reducible refine (hcall.out).mono ?_); rintro e w1 hs; have hs' := Hid.mk2 hs; clear hs; obtain ⟨v, rfl⟩ := StreamPost.ret hs'.out)
  go_ret
  exact hs'.out
set_option maxRecDepth 100000 in
set_option maxHeartbeats 2000000 in
theorem block_more_s {B : Nat} {w : World} {db rb bs hb : Nat} {k0 k1 k2 : Value} {i : Nat → Int} {sm : ByteArray} {fr at_ : Int} {c : Cfg} {j n k : Nat} {S : List Nat} (hk : LimOk c) (hd : DecF 230 w db rb hb k0 k1 k2 i sm fr at_) (h : RdS false B w rb bs c (8 * j) S) (hdb : db ∉ S) (hj : j ≤ c.lim.1) (hn : n < 16777216) (hkz : k ≠ 0) :
    Calls Tryz.prog 113 #[.pointer (some ⟨db, 0, none⟩), .int .i64 k, .int .i64 n] w (BlockPost false B rb bs c S j n w) := by
  have hm : ∀ (a : Addr) (w : World), (Go.method 464 230 (.pointer (some a)) "Read").run Tryz.prog w = .ok (246, .pointer (some a)) w := fun a w => by kernel_rfl
  have hwe := (wantE_ne hk.stop).1
  obtain ⟨hh, hlf⟩ := errV_leaf hwe
  have hln := hlf.nnil
  have hok := fun W S1 j (hr : RdS false B W rb bs c (8 * j) S1) (hin : j + 1 ≤ c.lim.1) => Hid.mk2 (show Calls Tryz.prog 246 #[.pointer (some ⟨rb, 0, none⟩), .int .i64 8] W fun e w' => e = .returned (.tuple #[.int .u64 (c.byte j), .nilIface]) ∧ Moved (RdS false B · rb bs c) W S1 (8 * (j + 1)) w' from rdByte_ok (q := false) hr hin)
  have hnot := fun W S1 j (hr : RdS false B W rb bs c (8 * j) S1) (hin : c.lim.1 < j + 1) => Hid.mk2 (show Calls Tryz.prog 246 #[.pointer (some ⟨rb, 0, none⟩), .int .i64 8] W fun e w' => e = .returned (.tuple #[.int .u64 0, .iface (errT (wantE c.lim.2)) (.int .i64 (errN (wantE c.lim.2)))]) ∧ Moved (RdS false B · rb bs c) W S1 (8 * j) w' from rdByte_not (q := false) hr hin hwe)
  have hkf : ((k : Int) == 0) = false := by simpa using hkz
  unfold BlockPost
  generalize errT (wantE c.lim.2) = et at *
  generalize errN (wantE c.lim.2) = en at *
  have hM0 := Hid.mk2 (MovT.start h [])
  have hj' := Hid.mk2 hj
  clear hlf hwe hj hkz
  go_enter Tryz.func113, Tryz.ntmps113
  go_wp2_with fail
  go_loopg [2] n (fun g s2 wx => ∃ (r m : Nat) (S1 : List Nat), g = r ∧ s2 = .int .i64 r ∧ Hid (MovT false B rb bs c [] w S (8 * (j + m)) wx S1) ∧ Hid (m + r = n ∧ j + m ≤ c.lim.1) ∧ r ≤ n)
  case atStart => exact ⟨n, 0, S, rfl, rfl, hM0, ⟨Nat.zero_add _, hj'.out⟩, Nat.le_refl _⟩
  case round =>
    obtain ⟨r, m, S1, hg, rfl, hM, hmr, hrn⟩ := hrel
    have hG := Hid.mk2 hg
    clear hg
    have hd1 : DecF 230 wr db rb hb k0 k1 k2 i sm fr at_ := hM.out.fr.blk hd.blk (by simpa using hdb)
    have hc1 := hd1.blk.cell
    by_cases hr0 : r = 0
    · subst hr0
      obtain rfl : m = n := by have := hmr.out.1; omega
      obtain ⟨fb, hfb, hmc⟩ := rdMark_s hM.out.rd
      have hmm := mark_meth_s hfb
      go_wp2_with (go_at_call 239; (with_reducible refine (hmc.out).mono ?_); rintro e w1 ⟨rfl, hm1⟩)
      go_ret
      obtain ⟨S2, hM2⟩ := hM.out.step hm1
      exact ⟨_, S2, hM2, .inr ⟨hmr.out.2, rfl, rfl⟩⟩
    · obtain ⟨r, rfl⟩ : ∃ r', r = r' + 1 := ⟨r - 1, by omega⟩
      have hlt' : (0 : Int) < ((r + 1 : Nat) : Int) := by omega
      by_cases hin : j + m + 1 ≤ c.lim.1
      · have hcall := hok _ _ (j + m) hM.out.rd hin
        generalize c.byte (j + m) = b at *
        go_wp2_with (go_at_call 246; (with_reducible refine (hcall.out).mono ?_); rintro e w1 ⟨rfl, hm1⟩; have hm1' := Hid.mk2 hm1; clear hm1)
        go_roundg r
        case measure => have := hG.out; omega
        case rel =>
          obtain ⟨S2, hM2⟩ := hM.out.step hm1'.out
          exact ⟨r, m + 1, S2, rfl, by go_num, hM2, ⟨by have := hmr.out.1; omega, hin⟩, by omega⟩
      · have hcall := hnot _ _ (j + m) hM.out.rd (by omega)
        have hfin : Hid (c.lim.1 < j + n) := by have := hmr.out.1; unfold Hid; omega
        go_wp2_with (go_at_call 246; (with_reducible refine (hcall.out).mono ?_); rintro e w1 ⟨rfl, hm1⟩)
        go_ret
        obtain ⟨S2, hM2⟩ := hM.out.step hm1
        exact ⟨_, S2, hM2, .inl ⟨hfin.out, rfl⟩⟩

set_option maxRecDepth 100000 in
set_option maxHeartbeats 2000000 in
theorem block_first_q {B : Nat} {w : World} {db rb bs hb : Nat} {k0 k1 k2 : Value} {i : Nat → Int} {sm : ByteArray} {fr at_ : Int} {c : Cfg} {S : List Nat} (n : Nat) (hk : LimOk c) (hd : DecF 233 w db rb hb k0 k1 k2 i sm fr at_) (h : RdS true B w rb bs c 64 S) (hdb : db ∉ S) (hB : B ≤ db) (h8 : 8 ≤ c.lim.1) :
    Calls Tryz.prog 113 #[.pointer (some ⟨db, 0, none⟩), .int .i64 0, .int .i64 n] w (StreamPost true 233 B db rb bs hb k0 k1 k2 fr at_ c S w) := by
  have hcall := Hid.mk2 (stream_any_q hk hd h hdb hB h8)
  clear hk hd h hdb hB h8
  go_enter Tryz.func113, Tryz.ntmps113
  go_wp2_with (go_at_call 137; (with_reducible refine (hcall.out).mono ?_); rintro e w1 hs; have hs' := Hid.mk2 hs; clear hs; obtain ⟨v, rfl⟩ := StreamPost.ret hs'.out)
  go_ret
  exact hs'.out
set_option maxRecDepth 100000 in
set_option maxHeartbeats 2000000 in
theorem block_more_q {B : Nat} {w : World} {db rb bs hb : Nat} {k0 k1 k2 : Value} {i : Nat → Int} {sm : ByteArray} {fr at_ : Int} {c : Cfg} {j n k : Nat} {S : List Nat} (hk : LimOk c) (hd : DecF 233 w db rb hb k0 k1 k2 i sm fr at_) (h : RdS true B w rb bs c (8 * j) S) (hdb : db ∉ S) (hj : j ≤ c.lim.1) (hn : n < 16777216) (hkz : k ≠ 0) :
    Calls Tryz.prog 113 #[.pointer (some ⟨db, 0, none⟩), .int .i64 k, .int .i64 n] w (BlockPost true B rb bs c S j n w) := by
  have hm : ∀ (a : Addr) (w : World), (Go.method 464 233 (.pointer (some a)) "Read").run Tryz.prog w = .ok (255, .pointer (some a)) w := fun a w => by kernel_rfl
  have hwe := (wantE_ne hk.stop).1
  obtain ⟨hh, hlf⟩ := errV_leaf hwe
  have hln := hlf.nnil
  have hok := fun W S1 j (hr : RdS true B W rb bs c (8 * j) S1) (hin : j + 1 ≤ c.lim.1) => Hid.mk2 (show Calls Tryz.prog 255 #[.pointer (some ⟨rb, 0, none⟩), .int .i64 8] W fun e w' => e = .returned (.tuple #[.int .u64 (c.byte j), .nilIface]) ∧ Moved (RdS true B · rb bs c) W S1 (8 * (j + 1)) w' from rdByte_ok (q := true) hr hin)
  have hnot := fun W S1 j (hr : RdS true B W rb bs c (8 * j) S1) (hin : c.lim.1 < j + 1) => Hid.mk2 (show Calls Tryz.prog 255 #[.pointer (some ⟨rb, 0, none⟩), .int .i64 8] W fun e w' => e = .returned (.tuple #[.int .u64 0, .iface (errT (wantE c.lim.2)) (.int .i64 (errN (wantE c.lim.2)))]) ∧ Moved (RdS true B · rb bs c) W S1 (8 * j) w' from rdByte_not (q := true) hr hin hwe)
  have hkf : ((k : Int) == 0) = false := by simpa using hkz
  unfold BlockPost
  generalize errT (wantE c.lim.2) = et at *
  generalize errN (wantE c.lim.2) = en at *
  have hM0 := Hid.mk2 (MovT.start h [])
  have hj' := Hid.mk2 hj
  clear hlf hwe hj hkz
  go_enter Tryz.func113, Tryz.ntmps113
  go_wp2_with fail
  go_loopg [2] n (fun g s2 wx => ∃ (r m : Nat) (S1 : List Nat), g = r ∧ s2 = .int .i64 r ∧ Hid (MovT true B rb bs c [] w S (8 * (j + m)) wx S1) ∧ Hid (m + r = n ∧ j + m ≤ c.lim.1) ∧ r ≤ n)
  case atStart => exact ⟨n, 0, S, rfl, rfl, hM0, ⟨Nat.zero_add _, hj'.out⟩, Nat.le_refl _⟩
  case round =>
    obtain ⟨r, m, S1, hg, rfl, hM, hmr, hrn⟩ := hrel
    have hG := Hid.mk2 hg
    clear hg
    have hd1 : DecF 233 wr db rb hb k0 k1 k2 i sm fr at_ := hM.out.fr.blk hd.blk (by simpa using hdb)
    have hc1 := hd1.blk.cell
    by_cases hr0 : r = 0
    · subst hr0
      obtain rfl : m = n := by have := hmr.out.1; omega
      obtain ⟨fb, hfb, hmc⟩ := rdMark_q hM.out.rd
      have hmm := mark_meth_q hfb
      go_wp2_with (go_at_call 239; (with_reducible refine (hmc.out).mono ?_); rintro e w1 ⟨rfl, hm1⟩)
      go_ret
      obtain ⟨S2, hM2⟩ := hM.out.step hm1
      exact ⟨_, S2, hM2, .inr ⟨hmr.out.2, rfl, rfl⟩⟩
    · obtain ⟨r, rfl⟩ : ∃ r', r = r' + 1 := ⟨r - 1, by omega⟩
      have hlt' : (0 : Int) < ((r + 1 : Nat) : Int) := by omega
      by_cases hin : j + m + 1 ≤ c.lim.1
      · have hcall := hok _ _ (j + m) hM.out.rd hin
        generalize c.byte (j + m) = b at *
        go_wp2_with (go_at_call 255; (with_reducible refine (hcall.out).mono ?_); rintro e w1 ⟨rfl, hm1⟩; have hm1' := Hid.mk2 hm1; clear hm1)
        go_roundg r
        case measure => have := hG.out; omega
        case rel =>
          obtain ⟨S2, hM2⟩ := hM.out.step hm1'.out
          exact ⟨r, m + 1, S2, rfl, by go_num, hM2, ⟨by have := hmr.out.1; omega, hin⟩, by omega⟩
      · have hcall := hnot _ _ (j + m) hM.out.rd (by omega)
        have hfin : Hid (c.lim.1 < j + n) := by have := hmr.out.1; unfold Hid; omega
        go_wp2_with (go_at_call 255; (with_reducible refine (hcall.out).mono ?_); rintro e w1 ⟨rfl, hm1⟩)
        go_ret
        obtain ⟨S2, hM2⟩ := hM.out.step hm1
        exact ⟨_, S2, hM2, .inl ⟨hfin.out, rfl⟩⟩

end Go.Proofs.YthigfpaajbejdaaGreatDoor
