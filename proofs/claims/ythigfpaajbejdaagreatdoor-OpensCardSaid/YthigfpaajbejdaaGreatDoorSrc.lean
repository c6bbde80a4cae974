/-
  The walk of (*plain.source).Read, asked for 512 bytes.
-/
import Derived.Test.YthigfpaajbejdaaGreatDoorBase
import Derived.Test.YthigfpaajbejdaaGreatDoorPlain
import Derived.Test.YthigfpaajbejdaaGreatDoorProg
import Derived.Deep.DeepCutAuto
namespace Go.Proofs.YthigfpaajbejdaaGreatDoor
open Go.RowKit

/-- A fault's value, by its number. -/
def errV (e : Nat) : Value := if e = 0 then .nilIface else if e = 16 then .iface 202 (.int .i64 1) else .iface 138 (.int .i64 e)

/-- The pieces, where the caller has them: below block B. -/
structure Pcs (B : Nat) (w : World) (a : Option Addr) (ps : List Int) : Prop where
  small : ps.length ≤ 1048576
  cell : ∀ i, i < ps.length → ∃ b off, a = some ⟨b, off, none⟩ ∧ b < B ∧ w.cell? ⟨b, off + i, none⟩ = some (.int .i64 (ps.getD i 0))
  fit : ∀ i, i < ps.length → -9223372036854775808 ≤ ps.getD i 0 ∧ ps.getD i 0 ≤ 9223372036854775807

/-- The source stands in block bs. -/
structure SrcI (B : Nat) (w : World) (bs : Nat) (c : Cfg) (pos left k : Nat) : Prop where
  above : B ≤ bs
  row : ∃ a cap, Blk w bs #[.string c.text, .slice a c.ps.length cap, .int .i64 c.broken, .int .i64 pos, .int .i64 left, .int .i64 k, .bool false] 101 ∧ Pcs B w a c.ps
  ok : c.ok pos
  fleft : left ≤ 9223372036854775807
  fk : k ≤ c.ps.length
  fb : -9223372036854775808 ≤ c.broken ∧ c.broken ≤ 9223372036854775807

set_option maxHeartbeats 400000 in
theorem read_broken (bs : Nat) (c : Cfg) (pos left k : Nat) (a : Option Addr) (len cap : Nat) (w : World)
    (hb : Blk w bs #[.string c.text, .slice a len cap, .int .i64 c.broken, .int .i64 pos, .int .i64 left, .int .i64 k, .bool false] 101)
    (h0 : 0 ≤ c.broken) (h1 : c.broken ≤ pos) (_h2 : pos ≤ 1048576) :
    Calls Tryz.prog 179 #[.pointer (some ⟨bs, 0, none⟩), .int .i64 512] w fun e w' => e = .returned (.tuple #[.string ByteArray.empty, errV 16]) ∧ ∃ n, w' = w.drewN n := by
  have c1 := hb.cell
  have g0 : decide ((0 : Int) ≤ c.broken) = true := by simpa using h0
  have g1 : decide (c.broken ≤ (pos : Int)) = true := by simpa using h1
  go_enter Tryz.func179, Tryz.ntmps179
  go_wp2
  go_quiet (fail)
  go_wp2
  go_ret2
  exact ⟨rfl, _, rfl⟩

/-- What a read leaves. -/
def ReadPost (B : Nat) (w : World) (bs : Nat) (c : Cfg) (pos left k : Nat) (e : Ending) (w' : World) : Prop :=
  e = .returned (.tuple #[.string (c.text.extract pos (pos + (c.read pos left k).m)), errV (c.read pos left k).e]) ∧
    SrcI B w' bs c (c.read pos left k).pos (c.read pos left k).left (c.read pos left k).k ∧ Fr [bs] w w'

theorem extract_none (s : ByteArray) (i : Nat) : s.extract i i = ByteArray.empty := by
  apply ByteArray.ext; simp [ByteArray.data_extract]
theorem SrcI.mk' {B : Nat} {w' : World} {bs : Nat} {c : Cfg} {a : Option Addr} {cap pos left k : Nat} (hB : B ≤ bs)
    (hb : Blk w' bs #[.string c.text, .slice a c.ps.length cap, .int .i64 c.broken, .int .i64 pos, .int .i64 left, .int .i64 k, .bool false] 101)
    (hP : Pcs B w' a c.ps) (hok : c.ok pos) (hl : left ≤ 9223372036854775807) (hk : k ≤ c.ps.length) (hbb : -9223372036854775808 ≤ c.broken ∧ c.broken ≤ 9223372036854775807) : SrcI B w' bs c pos left k :=
  ⟨hB, ⟨a, cap, hb, hP⟩, hok, hl, hk, hbb⟩
theorem Pcs.keep {B : Nat} {w w' : World} {a : Option Addr} {ps : List Int} {S : List Nat} (h : Pcs B w a ps) (hf : Fr S w w') (hS : ∀ x ∈ S, B ≤ x) : Pcs B w' a ps :=
  ⟨h.small, fun i hi => by
    obtain ⟨b, off, h1, h2, h3⟩ := h.cell i hi
    exact ⟨b, off, h1, h2, hf.cell h3 (fun hb => by have := hS _ hb; simp at this; omega)⟩, h.fit⟩

theorem left1_at (c : Cfg) (k : Nat) (hk : k < c.ps.length) : c.left1 0 k = (max 0 (c.ps.getD k 0)).toNat ∧ c.k1 0 k = k + 1 := by simp [Cfg.left1, Cfg.k1, hk]
theorem left1_end (c : Cfg) (k : Nat) (hk : ¬ k < c.ps.length) : c.left1 0 k = 1099511627776 ∧ c.k1 0 k = k := by simp [Cfg.left1, Cfg.k1, hk]
theorem left1_in (c : Cfg) (left k : Nat) (hl : left ≠ 0) : c.left1 left k = left ∧ c.k1 left k = k := by simp [Cfg.left1, Cfg.k1, hl]

theorem left1_le (c : Cfg) (left k : Nat) (hl : left ≤ 9223372036854775807) (hf : ∀ i, i < c.ps.length → -9223372036854775808 ≤ c.ps.getD i 0 ∧ c.ps.getD i 0 ≤ 9223372036854775807) : c.left1 left k ≤ 9223372036854775807 := by
  unfold Cfg.left1
  split
  · split
    · rename_i h; have := hf k h; omega
    · omega
  · omega
theorem k1_le (c : Cfg) (left k : Nat) (hk : k ≤ c.ps.length) : c.k1 left k ≤ c.ps.length := by
  unfold Cfg.k1
  split
  · split <;> omega
  · omega
theorem ReadPost.of {B : Nat} {w : World} {bs : Nat} {c : Cfg} {pos left k : Nat} {e : Ending} {w' : World} {g : Got} {a : Option Addr} {cap : Nat} (hr : c.read pos left k = g) (hB : B ≤ bs)
    (hP : Pcs B w a c.ps) (hok : c.ok g.pos) (hl : g.left ≤ 9223372036854775807) (hk : g.k ≤ c.ps.length) (hbb : -9223372036854775808 ≤ c.broken ∧ c.broken ≤ 9223372036854775807)
    (he : e = .returned (.tuple #[.string (c.text.extract pos (pos + g.m)), errV g.e]))
    (hb : Blk w' bs #[.string c.text, .slice a c.ps.length cap, .int .i64 c.broken, .int .i64 g.pos, .int .i64 g.left, .int .i64 g.k, .bool false] 101) (hf : Fr [bs] w w') :
    ReadPost B w bs c pos left k e w' := by
  unfold ReadPost
  rw [hr]
  exact ⟨he, ⟨hB, ⟨a, cap, hb, hP.keep hf (by simpa using hB)⟩, hok, hl, hk, hbb⟩, hf⟩

/-- Behind the choice of a piece. -/
def CutL (w : World) (bs : Nat) (c : Cfg) (a : Option Addr) (cap pos : Nat) (l k : Nat) (wx : World) : Prop :=
  Blk wx bs #[.string c.text, .slice a c.ps.length cap, .int .i64 c.broken, .int .i64 pos, .int .i64 l, .int .i64 k, .bool false] 101 ∧ Fr [bs] w wx
def CutM (w : World) (bs : Nat) (c : Cfg) (a : Option Addr) (cap pos : Nat) (l k m : Nat) (v : Value) (wx : World) : Prop :=
  v = .int .i64 m ∧ CutL w bs c a cap pos l k wx

set_option maxRecDepth 100000 in
set_option maxHeartbeats 1000000 in
theorem read_go (B bs : Nat) (c : Cfg) (pos left k : Nat) (a : Option Addr) (cap : Nat) (w : World) (hB : B ≤ bs)
    (hb : Blk w bs #[.string c.text, .slice a c.ps.length cap, .int .i64 c.broken, .int .i64 pos, .int .i64 left, .int .i64 k, .bool false] 101)
    (hP : Pcs B w a c.ps) (hok : c.ok pos) (hl : left ≤ 9223372036854775807) (hk : k ≤ c.ps.length) (hbb : -9223372036854775808 ≤ c.broken ∧ c.broken ≤ 9223372036854775807)
    (h0 : ¬ (0 ≤ c.broken ∧ c.broken ≤ pos)) :
    Calls Tryz.prog 179 #[.pointer (some ⟨bs, 0, none⟩), .int .i64 512] w (ReadPost B w bs c pos left k) := by
  have c1 := hb.cell
  have f1 := hb.frozen
  have hps := hP.small
  obtain ⟨hz, hpz, hpb⟩ := hok
  unfold Cfg.len at hz hpz
  go_enter Tryz.func179, Tryz.ntmps179
  go_upto_region 4 with fail
  go_cut [34] (fun v wx => v = .bool false ∧ ∃ n, wx = w.drewN n)
  case first =>
    by_cases hbr : 0 ≤ c.broken
    · have g0 : decide ((0 : Int) ≤ c.broken) = true := by simpa using hbr
      have g1 : decide (c.broken ≤ (pos : Int)) = false := by simp; omega
      go_quiet (fail)
      go_wp2
      go_meet
      case rel => exact ⟨rfl, _, rfl⟩
    · have g0 : decide ((0 : Int) ≤ c.broken) = false := by simpa using hbr
      go_quiet (fail)
      go_wp2
      go_meet
      case rel => exact ⟨rfl, _, rfl⟩
  case rest =>
  obtain ⟨rfl, n4, rfl⟩ := hcut
  go_upto_if 40 with fail
  go_cut [] (fun wx => c.left1 left k ≠ 0 ∧ CutL w bs c a cap pos (c.left1 left k) (c.k1 left k) wx)
  case first =>
    by_cases hl0 : left = 0
    · subst hl0
      by_cases hkl : k < c.ps.length
      · obtain ⟨b, off, rfl, hbB, hp⟩ := hP.cell k hkl
        obtain ⟨hp1, hp2⟩ := hP.fit k hkl
        obtain ⟨e1, e2⟩ := left1_at c k hkl
        have hne : b ≠ bs := by omega
        have g2 : decide ((k : Int) < (c.ps.length : Int)) = true := by simpa using hkl
        have he : Hid (c.left1 0 k = (max 0 (c.ps.getD k 0)).toNat ∧ c.k1 0 k = k + 1) := ⟨e1, e2⟩
        clear e1 e2
        generalize hpp : c.ps.getD k 0 = p at *
        clear hpp
        by_cases hp0 : p ≤ 0
        · go_wp2
          go_quiet (fail)
          go_wp2
          refine wp_tail 13 (by kernel_rfl) (by kernel_rfl) ?_
          simp only [List.take_succ_cons, List.take_zero, List.drop_succ_cons, List.drop_zero]
          repeat still_step
          refine wpStill_nil ?_
          go_wp2
          go_ret2
          have hr : c.read pos 0 k = ⟨0, 0, pos, 0, k + 1⟩ := by
            unfold Cfg.read
            rw [if_neg h0, if_pos (by rw [he.out.1]; omega), he.out.2]
          refine ReadPost.of (cap := cap) hr hB hP ⟨hz, hpz, hpb⟩ (Nat.zero_le _) (show k + 1 ≤ c.ps.length by omega) hbb ?_ (Blk.intro ?_) (by (repeat (first | exact Fr.refl _ _ | refine Fr.drewN' ?_ _ | refine Fr.set' ?_ _ (by simp))))
          · show Ending.returned (.tuple #[.string ByteArray.empty, .nilIface]) = _
            rw [Nat.add_zero, extract_none]; rfl
          · simp [at_setCell, at_drewN, hb.out, putObj]
        · go_wp2
          go_quiet (fail)
          go_wp2
          refine wp_tail 13 (by kernel_rfl) (by kernel_rfl) ?_
          simp only [List.take_succ_cons, List.take_zero, List.drop_succ_cons, List.drop_zero]
          repeat still_step
          refine wpStill_nil ?_
          go_wp2
          go_meet
          case rel =>
            have hcast : ((c.left1 0 k : Nat) : Int) = p := by rw [he.out.1]; omega
            refine ⟨by omega, Blk.intro ?_, by (repeat (first | exact Fr.refl _ _ | refine Fr.drewN' ?_ _ | refine Fr.set' ?_ _ (by simp)))⟩
            rw [hcast, he.out.2]
            simp [at_setCell, at_drewN, hb.out, putObj]
      · obtain ⟨e1, e2⟩ := left1_end c k hkl
        have he : Hid (c.left1 0 k = 1099511627776 ∧ c.k1 0 k = k) := ⟨e1, e2⟩
        clear e1 e2
        have g2 : decide ((k : Int) < (c.ps.length : Int)) = false := by simpa using hkl
        go_wp2
        go_quiet (fail)
        go_wp2
        go_meet
        case rel =>
          refine ⟨by rw [he.out.1]; omega, Blk.intro ?_, by (repeat (first | exact Fr.refl _ _ | refine Fr.drewN' ?_ _ | refine Fr.set' ?_ _ (by simp)))⟩
          rw [he.out.1, he.out.2]
          simp [at_setCell, at_drewN, hb.out, putObj]
    · obtain ⟨e1, e2⟩ := left1_in c left k hl0
      have he : Hid (c.left1 left k = left ∧ c.k1 left k = k) := ⟨e1, e2⟩
      clear e1 e2
      have g2 : ((left : Int) == 0) = false := by simp; omega
      go_wp2
      go_meet
      case rel =>
        refine ⟨by rw [he.out.1]; omega, Blk.intro ?_, by (repeat (first | exact Fr.refl _ _ | refine Fr.drewN' ?_ _ | refine Fr.set' ?_ _ (by simp)))⟩
        rw [he.out.1, he.out.2]
        simp [at_setCell, at_drewN, hb.out, putObj]
  case rest =>
    obtain ⟨hl1, hbc, hfc⟩ := hcut
    have hl2 := left1_le c left k hl hP.fit
    have hk2 := k1_le c left k hk
    have hrd : Hid (c.read pos left k = if c.take pos (c.left1 left k) = 0 then ⟨0, 1, pos, c.left1 left k, c.k1 left k⟩ else ⟨c.take pos (c.left1 left k), 0, pos + c.take pos (c.left1 left k), c.left1 left k - c.take pos (c.left1 left k), c.k1 left k⟩) := by
      unfold Hid Cfg.read; rw [if_neg h0, if_neg hl1]
    generalize c.left1 left k = l at *
    generalize c.k1 left k = k' at *
    clear c1 f1
    have c1 := hbc.cell
    have f1 := hbc.frozen
    go_upto_region 13 with fail
    go_cut [6] (CutM w bs c a cap pos l k' (min (min 512 l) (c.text.size - pos)))
    case first =>
      go_quiet (fail)
      go_wp2
      all_goals
        go_meet
        case rel =>
          refine ⟨?_, hbc.drewN _, hfc.drewN' _⟩
          congr 1
          omega
    case rest =>
      obtain ⟨rfl, hbd, hfd⟩ := hcut
      clear c1 f1
      have c1 := hbd.cell
      have f1 := hbd.frozen
      have hm0 : min (min 512 l) (c.text.size - pos) ≤ 512 ∧ min (min 512 l) (c.text.size - pos) ≤ l ∧ min (min 512 l) (c.text.size - pos) ≤ c.text.size - pos := by omega
      have htk : Hid (c.take pos l = if 0 ≤ c.broken then min (min (min 512 l) (c.text.size - pos)) (c.broken.toNat - pos) else min (min 512 l) (c.text.size - pos)) := rfl
      generalize min (min 512 l) (c.text.size - pos) = m0 at *
      obtain ⟨hm1, hm2, hm3⟩ := hm0
      have htb : c.take pos l ≤ m0 ∧ (0 ≤ c.broken → c.take pos l ≤ c.broken.toNat - pos) := by
        rw [htk.out]; split <;> refine ⟨by omega, fun _ => by omega⟩
      obtain ⟨htb1, htb2⟩ := htb
      go_upto_if 104 with fail
      go_cut [6] (CutM w bs c a cap pos l k' (c.take pos l))
      case first =>
        by_cases hbr : 0 ≤ c.broken
        · have g0 : decide ((0 : Int) ≤ c.broken) = true := by simpa using hbr
          go_wp2
          go_quiet (fail)
          go_wp2
          all_goals
            go_meet
            case rel =>
              refine ⟨?_, hbd.drewN _, hfd.drewN' _⟩
              rw [htk.out, if_pos hbr]
              congr 1
              omega
        · have g0 : decide ((0 : Int) ≤ c.broken) = false := by simpa using hbr
          go_wp2
          go_meet
          case rel =>
            refine ⟨?_, hbd, hfd⟩
            rw [htk.out, if_neg (by omega)]
      case rest =>
        obtain ⟨rfl, hbe, hfe⟩ := hcut
        clear c1 f1 htk
        have c1 := hbe.cell
        have f1 := hbe.frozen
        generalize c.take pos l = m at *
        by_cases hm : m = 0
        · have g2 : ((m : Int) == 0) = true := by simpa using hm
          have hmH : Hid (m = 0) := hm
          clear hm
          go_wp2
          go_ret2
          have hr := hrd.out
          rw [if_pos hmH.out] at hr
          refine ReadPost.of (cap := cap) hr hB hP ⟨hz, hpz, hpb⟩ hl2 hk2 hbb ?_ hbe hfe
          show Ending.returned (.tuple #[.string ByteArray.empty, .iface 138 (.int .i64 1)]) = _
          rw [Nat.add_zero, extract_none]; rfl
        · have g2 : ((m : Int) == 0) = false := by simpa using hm
          have hr := hrd.out
          rw [if_neg hm] at hr
          have hrH : Hid _ := hr
          clear hr hm
          go_wp2
          go_quiet (fail)
          go_wp2
          go_ret2
          refine ReadPost.of (cap := cap) hrH.out hB hP ⟨hz, (show pos + m ≤ c.len by unfold Cfg.len; omega), fun h => (show ((pos + m : Nat) : Int) ≤ c.broken by have := htb2 h; have := hpb h; omega)⟩ (show l - m ≤ 9223372036854775807 by omega) hk2 hbb ?_ (Blk.intro ?_) (by (repeat (first | exact hfe | refine Fr.drewN' ?_ _ | refine Fr.set' ?_ _ (by simp))))
          · rfl
          · have hc2 : ((l - m : Nat) : Int) = (l : Int) - m := by omega
            have hc3 : ((pos + m : Nat) : Int) = (pos : Int) + m := by omega
            rw [hc2, hc3]
            simp [at_setCell, at_drewN, hbe.out, putObj]

/-- (*source).Read, asked for 512 bytes. -/
theorem srcRead_any {B : Nat} {w : World} {bs : Nat} {c : Cfg} {pos left k : Nat} (h : SrcI B w bs c pos left k) :
    Calls Tryz.prog 179 #[.pointer (some ⟨bs, 0, none⟩), .int .i64 512] w (ReadPost B w bs c pos left k) := by
  obtain ⟨a, cap, hb, hP⟩ := h.row
  by_cases h0 : 0 ≤ c.broken ∧ c.broken ≤ pos
  · refine (read_broken bs c pos left k a _ cap w hb h0.1 h0.2 (by have := h.ok; unfold Cfg.ok at this; omega)).mono ?_
    rintro e w' ⟨rfl, n, rfl⟩
    have hr : c.read pos left k = ⟨0, 16, pos, left, k⟩ := by unfold Cfg.read; rw [if_pos h0]
    refine ReadPost.of (cap := cap) hr h.above hP h.ok h.fleft h.fk h.fb ?_ (hb.drewN n) (Fr.drewN _ _ _)
    show _ = Ending.returned (.tuple #[.string (c.text.extract pos (pos + 0)), errV 16])
    rw [Nat.add_zero, extract_none]
  · exact read_go B bs c pos left k a cap w h.above hb hP h.ok h.fleft h.fk h.fb h0
end Go.Proofs.YthigfpaajbejdaaGreatDoor
