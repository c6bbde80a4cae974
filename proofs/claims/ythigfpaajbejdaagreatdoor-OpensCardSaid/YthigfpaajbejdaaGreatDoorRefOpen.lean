/-
  Plain laws, no program in sight: what Open must tell.
-/
/-
  flacpairref.reader, walked: bits, text, pass, about.
-/
import Derived.Test.YthigfpaajbejdaaGreatDoorSlow
import Derived.Test.YthigfpaajbejdaaGreatDoorRefStream
import Derived.Laws.BytesString
import Derived.Laws.IdiomStrings
namespace Go.Proofs.YthigfpaajbejdaaGreatDoor

/-- The head of a block of metadata, at byte q: is it the last; its kind; its length. -/
def Cfg.lastN (c : Cfg) (q : Nat) : Nat := c.byte q / 128
def Cfg.kindN (c : Cfg) (q : Nat) : Nat := c.byte q % 128
def Cfg.lenN (c : Cfg) (q : Nat) : Nat := c.byte (q + 1) * 65536 + c.byte (q + 2) * 256 + c.byte (q + 3)
theorem Cfg.lastN_lt (c : Cfg) (q : Nat) : c.lastN q < 2 := by have := c.byte_lt q; unfold lastN; omega
theorem Cfg.kindN_lt (c : Cfg) (q : Nat) : c.kindN q < 128 := Nat.mod_lt _ (by decide)
theorem Cfg.lenN_lt (c : Cfg) (q : Nat) : c.lenN q < 16777216 := by
  have h1 := c.byte_lt (q + 1)
  have h2 := c.byte_lt (q + 2)
  have h3 := c.byte_lt (q + 3)
  unfold lenN; omega
theorem Cfg.head_byte (c : Cfg) (q : Nat) : c.byte q = c.bits (8 * q) 1 * 128 + c.bits (8 * q + 1) 7 ∧ c.bits (8 * q + 1) 7 < 128 := by
  have h := c.bits_add (8 * q) 1 7
  have h2 := c.bits_lt (8 * q + 1) 7
  rw [show 1 + 7 = 8 from rfl, c.bits_byte] at h
  exact ⟨h, h2⟩
theorem Cfg.bits_last (c : Cfg) (q : Nat) : c.bits (8 * q) 1 = c.lastN q := by
  obtain ⟨h1, h2⟩ := c.head_byte q
  unfold lastN; omega
theorem Cfg.bits_kind (c : Cfg) (q : Nat) : c.bits (8 * q + 1) 7 = c.kindN q := by
  obtain ⟨h1, h2⟩ := c.head_byte q
  unfold kindN; omega
theorem Cfg.bits_len (c : Cfg) (q : Nat) : c.bits (8 * q + 8) 24 = c.lenN q := by
  have h1 := c.bits_add (8 * q + 8) 8 16
  have h2 := c.bits_add (8 * q + 16) 8 8
  have e1 := c.bits_byte (q + 1)
  have e2 := c.bits_byte (q + 2)
  have e3 := c.bits_byte (q + 3)
  rw [show 8 * (q + 1) = 8 * q + 8 by omega] at e1
  rw [show 8 * (q + 2) = 8 * q + 16 by omega] at e2
  rw [show 8 * (q + 3) = 8 * q + 24 by omega] at e3
  rw [show 8 + 16 = 24 from rfl, show 8 * q + 8 + 8 = 8 * q + 16 by omega, e1] at h1
  rw [show 8 + 8 = 16 from rfl, show 8 * q + 16 + 8 = 8 * q + 24 by omega, e2, e3] at h2
  rw [h1, h2]
  unfold lenN
  simp only [Nat.reducePow]
  omega
/-- A block's head that must not stand there. -/
def metaBad (k kind n : Nat) : Bool := decide (kind = 127) || (decide (kind = 0) != decide (k = 0)) || (decide (k = 0) && decide (n ≠ 34))

/-- The stream's own block: how many bits each number has, and where it begins. -/
def infoLen (i : Nat) : Nat := [16, 16, 24, 24, 20, 3, 5, 36].getD i 0
def infoPos (i : Nat) : Nat := [64, 80, 96, 120, 144, 164, 167, 172, 208].getD i 0
theorem infoPos_succ (i : Nat) (h : i < 8) : infoPos (i + 1) = infoPos i + infoLen i ∧ infoLen i ≤ 36 ∧ infoPos (i + 1) ≤ 208 ∧ 64 ≤ infoPos i := by
  match i, h with
  | 0, _ => decide
  | 1, _ => decide
  | 2, _ => decide
  | 3, _ => decide
  | 4, _ => decide
  | 5, _ => decide
  | 6, _ => decide
  | 7, _ => decide
def Cfg.inf (c : Cfg) (i : Nat) : Nat := c.bits (infoPos i) (infoLen i)
theorem Cfg.inf_lt (c : Cfg) (i : Nat) (h : i < 8) : c.inf i < 68719476736 :=
  Nat.lt_of_lt_of_le (c.bits_lt _ _) (Nat.pow_le_pow_right (n := 2) (by decide) (infoPos_succ i h).2.1)
/-- What a stream must not say of itself. -/
def Cfg.infoBad (c : Cfg) : Bool := decide (c.inf 0 < 16) || decide (c.inf 1 < c.inf 0) || decide (4096 < c.inf 1) || decide (c.inf 6 + 1 < 4) || decide (c.inf 4 = 0)

/-- What Open tells: a fault and its byte; or the byte at which the first frame begins. -/
inductive OpenRes where
  | bad (e at_ : Nat)
  | good (q : Nat)
def Cfg.openGo (c : Cfg) : Nat → Nat → Nat → OpenRes
  | 0, _, q => .bad 0 q
  | f + 1, k, q =>
    if c.lim.1 < q + 4 then .bad (wantE c.lim.2) q
    else if metaBad k (c.kindN q) (c.lenN q) then .bad 5 q
    else if k = 0 then
      (if c.lim.1 < q + 38 then .bad (wantE c.lim.2) q else if c.infoBad then .bad 4 q else if c.lastN q = 1 then .good (q + 38) else c.openGo f 1 (q + 38))
    else
      (if c.lim.1 < q + 4 + c.lenN q then .bad (wantE c.lim.2) q else if c.lastN q = 1 then .good (q + 4 + c.lenN q) else c.openGo f (k + 1) (q + 4 + c.lenN q))
def Cfg.markText (c : Cfg) : List UInt8 := (c.text.extract 0 4).data.toList
def Cfg.openAll (c : Cfg) : OpenRes :=
  if c.lim.1 < 4 then .bad (wantE c.lim.2) 0
  else if c.markText ≠ [102, 76, 97, 67] then .bad 2 0
  else c.openGo (c.lim.1 + 1) 0 4
end Go.Proofs.YthigfpaajbejdaaGreatDoor
namespace Go.Proofs.YthigfpaajbejdaaGreatDoor
open Go.RowKit

theorem Hid.mk2 {p : Prop} (h : p) : Hid p := h
/-- The document's reader stands in block rb: its fault, and how many bits its stream has read. -/
structure RefB (w : World) (rb sb : Nat) (c : Cfg) (e p : Nat) : Prop where
  blk : Blk w rb #[.pointer (some ⟨sb, 0, none⟩), .int .i64 e] 114
  doc : StreamB w sb c p
section
variable {w w' : World} {rb sb : Nat} {c : Cfg} {e p : Nat} {S : List Nat}
theorem RefB.keep (h : RefB w rb sb c e p) (hf : Fr S w w') (h1 : rb ∉ S) (h2 : sb ∉ S) : RefB w' rb sb c e p := ⟨hf.blk h.blk h1, hf.blk h.doc.blk h2⟩
theorem RefB.still (h : RefB w rb sb c e p) (hf : Fr [] w w') : RefB w' rb sb c e p := h.keep hf (by simp) (by simp)
theorem RefB.ne (h : RefB w rb sb c e p) : rb ≠ sb := h.blk.ne h.doc.blk (by decide)
end

theorem rFail_live {w : World} {rb sb : Nat} {c : Cfg} {p : Nat} (h : RefB w rb sb c 0 p) (k : Nat) :
    Calls Tryz.prog 45 #[.pointer (some ⟨rb, 0, none⟩), .int .i64 k] w fun e w' => e = .returned (.tuple #[]) ∧ RefB w' rb sb c k p ∧ Fr [rb] w w' := by
  have hc := h.blk.cell
  have hz := h.blk.frozen
  go_enter Tryz.func45, Tryz.ntmps45
  go_wp2_with fail
  go_end0
  exact ⟨rfl, ⟨h.blk.set 1 _, (Fr.set (S := [rb]) (a := ⟨rb, 1, none⟩) _ (List.mem_singleton.2 rfl)).blk h.doc.blk (by simpa using h.ne.symm)⟩, Fr.set _ (List.mem_singleton.2 rfl)⟩
theorem rFail_int {w : World} {rb sb : Nat} {c : Cfg} {p : Nat} (h : RefB w rb sb c 0 p) (k : Nat) {z : Int} (hz : z = (k : Int)) :
    Calls Tryz.prog 45 #[.pointer (some ⟨rb, 0, none⟩), .int .i64 z] w fun e w' => e = .returned (.tuple #[]) ∧ RefB w' rb sb c k p ∧ Fr [rb] w w' := by
  subst hz; exact rFail_live h k
theorem rFail_dead {w : World} {rb sb : Nat} {c : Cfg} {e p : Nat} (h : RefB w rb sb c e p) (he : e ≠ 0) (k : Nat) :
    Calls Tryz.prog 45 #[.pointer (some ⟨rb, 0, none⟩), .int .i64 k] w fun ev w' => ev = .returned (.tuple #[]) ∧ w = w' := by
  have hc := h.blk.cell
  have he' : ((e : Int) == 0) = false := by simpa using he
  clear he
  go_enter Tryz.func45, Tryz.ntmps45
  go_wp2_with fail
  go_end0
  exact ⟨rfl, rfl⟩

theorem fr_pair {rb sb : Nat} {w w1 w2 : World} (h1 : Fr [sb] w w1) (h2 : Fr [rb] w1 w2) : Fr [rb, sb] w w2 :=
  (h1.mono (T := [rb, sb]) (fun k hk => .inl (by rw [List.mem_singleton] at hk; subst hk; exact List.mem_cons_of_mem _ (List.mem_singleton.2 rfl)))).trans h2
    (fun k hk => .inl (by rw [List.mem_singleton] at hk; subst hk; exact List.mem_cons_self ..))
set_option maxHeartbeats 1000000 in
theorem rBits_ok {w : World} {rb sb : Nat} {c : Cfg} {p : Nat} (hk : LimOk c) (h : RefB w rb sb c 0 p) (n : Nat) (hn : n ≤ 62) (hp : p + n ≤ 8 * c.lim.1) :
    Calls Tryz.prog 46 #[.pointer (some ⟨rb, 0, none⟩), .int .i64 n] w fun e w' => e = .returned (.int .i64 (c.bits p n)) ∧ RefB w' rb sb c 0 (p + n) ∧ Fr [rb, sb] w w' := by
  have hc := h.blk.cell
  have hz := h.blk.frozen
  have hb : c.bits p n < 9223372036854775808 := Nat.lt_of_lt_of_le (c.bits_lt p n) (Nat.pow_le_pow_right (n := 2) (by decide) (show n ≤ 63 by omega))
  have hcall := rRead_ok hk h.doc n (by omega) hp
  rw [around_small hb] at hcall
  have hne := h.ne
  have hH := Hid.mk2 hp
  clear hp
  go_enter Tryz.func46, Tryz.ntmps46
  go_wp2_with (first
    | (go_at_call 77; (with_reducible refine (hcall).mono ?_); rintro e w1 ⟨rfl, hs1, hf1⟩; have hb1 := hf1.blk h.blk (by simpa using hne))
    | (go_at_call 45; (with_reducible refine (rFail_int (⟨hb1, hs1⟩ : RefB w1 rb sb c 0 (p + n)) 0 (z := 0) rfl).mono ?_); rintro e w2 ⟨rfl, hr2, hf2⟩))
  go_ret
  exact ⟨rfl, hr2, fr_pair hf1 hf2⟩
set_option maxHeartbeats 1000000 in
theorem rBits_not {w : World} {rb sb : Nat} {c : Cfg} {p : Nat} (hk : LimOk c) (h : RefB w rb sb c 0 p) (n : Nat) (hn : n ≤ 62) (hp0 : p ≤ 8 * c.lim.1) (hp : 8 * c.lim.1 < p + n) :
    Calls Tryz.prog 46 #[.pointer (some ⟨rb, 0, none⟩), .int .i64 n] w fun e w' => e = .returned (.int .i64 0) ∧ RefB w' rb sb c (wantE c.lim.2) p ∧ Fr [rb, sb] w w' := by
  have hc := h.blk.cell
  have hz := h.blk.frozen
  have hcall := rRead_not hk h.doc n (by omega) hp0 hp
  have hne := h.ne
  generalize wantE c.lim.2 = e0 at *
  have hH := Hid.mk2 hp
  clear hp hp0
  go_enter Tryz.func46, Tryz.ntmps46
  go_wp2_with (first
    | (go_at_call 77; (with_reducible refine (hcall).mono ?_); rintro e w1 ⟨rfl, hs1, hf1⟩; have hb1 := hf1.blk h.blk (by simpa using hne))
    | (go_at_call 45; (with_reducible refine (rFail_live (k := e0) (⟨hb1, hs1⟩ : RefB w1 rb sb c 0 p)).mono ?_); rintro e w2 ⟨rfl, hr2, hf2⟩))
  go_ret
  exact ⟨rfl, hr2, fr_pair hf1 hf2⟩
theorem rBits_dead {w : World} {rb sb : Nat} {c : Cfg} {e p : Nat} (h : RefB w rb sb c e p) (he : e ≠ 0) (n : Nat) :
    Calls Tryz.prog 46 #[.pointer (some ⟨rb, 0, none⟩), .int .i64 n] w fun ev w' => ev = .returned (.int .i64 0) ∧ w = w' := by
  have hc := h.blk.cell
  have he' : ((e : Int) != 0) = true := by simpa using he
  clear he
  go_enter Tryz.func46, Tryz.ntmps46
  go_wp2_with fail
  go_ret
  exact ⟨rfl, rfl⟩
/-- How a read of n bits turns the reader's fault and place. -/
def Cfg.rd (c : Cfg) (st : Nat × Nat) (n : Nat) : Nat × Nat := if st.1 ≠ 0 then st else if st.2 + n ≤ 8 * c.lim.1 then (0, st.2 + n) else (wantE c.lim.2, st.2)
theorem Cfg.rd_le {c : Cfg} {st : Nat × Nat} {n : Nat} (h : st.2 ≤ 8 * c.lim.1) : (c.rd st n).2 ≤ 8 * c.lim.1 := by
  unfold rd; split
  · exact h
  · split
    · assumption
    · exact h
theorem rBits_any {w : World} {rb sb : Nat} {c : Cfg} {st : Nat × Nat} (hk : LimOk c) (h : RefB w rb sb c st.1 st.2) (n : Nat) (hn : n ≤ 36) (hp0 : st.2 ≤ 8 * c.lim.1) :
    Calls Tryz.prog 46 #[.pointer (some ⟨rb, 0, none⟩), .int .i64 n] w fun e w' => (∃ v : Nat, v < 68719476736 ∧ e = .returned (.int .i64 v)) ∧ RefB w' rb sb c (c.rd st n).1 (c.rd st n).2 ∧ Fr [rb, sb] w w' := by
  obtain ⟨e0, p⟩ := st
  by_cases he : e0 = 0
  · subst he
    by_cases hp : p + n ≤ 8 * c.lim.1
    · have e : c.rd (0, p) n = (0, p + n) := by unfold Cfg.rd; rw [if_neg (by simp), if_pos hp]
      rw [e]
      refine (rBits_ok hk h n (by omega) hp).mono ?_
      rintro ev w' ⟨rfl, h2, h3⟩
      exact ⟨⟨_, Nat.lt_of_lt_of_le (c.bits_lt p n) (Nat.pow_le_pow_right (n := 2) (by decide) hn), rfl⟩, h2, h3⟩
    · have e : c.rd (0, p) n = (wantE c.lim.2, p) := by unfold Cfg.rd; rw [if_neg (by simp), if_neg hp]
      rw [e]
      refine (rBits_not hk h n (by omega) hp0 (by omega)).mono ?_
      rintro ev w' ⟨rfl, h2, h3⟩
      exact ⟨⟨0, by decide, rfl⟩, h2, h3⟩
  · have e : c.rd (e0, p) n = (e0, p) := by unfold Cfg.rd; rw [if_pos he]
    rw [e]
    refine (rBits_dead h he n).mono ?_
    rintro ev w' ⟨rfl, rfl⟩
    exact ⟨⟨0, by decide, rfl⟩, h, Fr.refl _ _⟩
end Go.Proofs.YthigfpaajbejdaaGreatDoor
