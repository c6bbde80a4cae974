/-
  plain.NewBits on both kinds, walked.
-/
import Derived.Test.YtnjebaaebhlibaaGreatDoorPlainBits
namespace Go.Proofs.YtnjebaaebhlibaaGreatDoor
open Go.RowKit

theorem extract_nil (s : ByteArray) : s.extract 0 0 = ⟨#[]⟩ := by apply ByteArray.ext; simp [ByteArray.data_extract]
/-- A feed that has just been made. -/
theorem feed_new {B : Nat} {w : World} {fb bs : Nat} {c : Cfg} {a : Option Addr} {cap : Nat}
    (hf : Blk w fb #[.iface 38 (.pointer (some ⟨bs, 0, none⟩)), .string ⟨#[]⟩, .nilIface, .slice none 0 0, .int .i64 0] 140)
    (hs : Blk w bs #[.string c.text, .slice a c.ps.length cap, .int .i64 c.broken, .int .i64 0, .int .i64 0, .int .i64 0, .bool false] 40)
    (hP : Pcs B w a c.ps) (h1 : B ≤ fb) (h2 : B ≤ bs) (hl : c.len ≤ 1048576) (hbb : -9223372036854775808 ≤ c.broken ∧ c.broken ≤ 9223372036854775807) :
    FeedV B w fb bs c 0 0 0 0 0 0 (.slice none 0 0) [] :=
  ⟨by rw [extract_nil, errV_zero]; exact hf, SrcI.mk' h2 hs hP ⟨hl, Nat.zero_le _, fun h => by omega⟩ (Nat.zero_le _) (Nat.zero_le _) hbb, ⟨rfl, .inl ⟨rfl, rfl⟩⟩, h1, Nat.le_refl _, by rw [if_pos rfl]; unfold Cfg.from_ Cfg.lim; rw [if_pos rfl]; rfl, by decide, Nat.zero_le _⟩

theorem Blk.newAt {w : World} {n : Nat} {c : Array Value} {t : TypeId} (h : n = w.heap.size) : Blk (w.alloc (.cells c t)) n c t := by subst h; exact Blk.new w c t
set_option maxHeartbeats 400000 in
theorem bNew_s (bs : Nat) (w : World) : Calls Tryz.prog 20 #[.iface 38 (.pointer (some ⟨bs, 0, none⟩)), .int .i64 0] w fun e w' => ∃ rb fb, e = .returned (.tuple #[.iface 106 (.pointer (some ⟨rb, 0, none⟩)), .nilIface]) ∧
    Blk w' fb #[.iface 38 (.pointer (some ⟨bs, 0, none⟩)), .string ⟨#[]⟩, .nilIface, .slice none 0 0, .int .i64 0] 140 ∧ Blk w' rb #[.pointer (some ⟨fb, 0, none⟩), .int .i64 0] 108 ∧ Fr [] w w' ∧ w.heap.size ≤ rb ∧ w.heap.size ≤ fb := by
  go_enter Tryz.func20, Tryz.ntmps20
  have hb0 := Blk.new w #[.iface 38 (.pointer (some ⟨bs, 0, none⟩)), .string ⟨#[]⟩, .nilIface, .slice none 0 0, .int .i64 0] 140
  go_wp2_with (go_at_call 29; refine (feedOf_any _ _ _).mono ?_; rintro e w' ⟨rfl, rfl⟩)
  go_ret2
  exact ⟨_, w.heap.size, rfl, (hb0.alloc _).alloc _, Blk.newAt (by simp), ((Fr.alloc [] w _).alloc' _).alloc' _, by omega, Nat.le_refl _⟩
set_option maxHeartbeats 400000 in
theorem bNew_q (bs : Nat) (w : World) : Calls Tryz.prog 20 #[.iface 38 (.pointer (some ⟨bs, 0, none⟩)), .int .i64 1] w fun e w' => ∃ rb fb, e = .returned (.tuple #[.iface 109 (.pointer (some ⟨rb, 0, none⟩)), .nilIface]) ∧
    Blk w' fb #[.iface 38 (.pointer (some ⟨bs, 0, none⟩)), .string ⟨#[]⟩, .nilIface, .slice none 0 0, .int .i64 0] 140 ∧ Blk w' rb #[.pointer (some ⟨fb, 0, none⟩), .int .u64 0, .int .i64 0, .int .i64 0] 112 ∧ Fr [] w w' ∧ w.heap.size ≤ rb ∧ w.heap.size ≤ fb := by
  go_enter Tryz.func20, Tryz.ntmps20
  have hb0 := Blk.new w #[.iface 38 (.pointer (some ⟨bs, 0, none⟩)), .string ⟨#[]⟩, .nilIface, .slice none 0 0, .int .i64 0] 140
  go_wp2_with (go_at_call 29; refine (feedOf_any _ _ _).mono ?_; rintro e w' ⟨rfl, rfl⟩)
  go_ret2
  exact ⟨_, w.heap.size, rfl, (hb0.alloc _).alloc _, Blk.newAt (by simp), ((Fr.alloc [] w _).alloc' _).alloc' _, by omega, Nat.le_refl _⟩
end Go.Proofs.YtnjebaaebhlibaaGreatDoor
