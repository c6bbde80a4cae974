/-
  bitio.fast, walked: ones, Unary.
-/
import Derived.Test.YtnjebaaebhlibaaGreatDoorFastRead
import Derived.Test.YtnjebaaebhlibaaGreatDoorText
namespace Go.Proofs.YtnjebaaebhlibaaGreatDoor
open Go.RowKit

theorem Cfg.byte_blen (c : Cfg) (q : Nat) (h : c.byte q ≠ 0) : c.una (8 * q) (8 - blen (c.byte q)) := by
  have h1 := blen_pos h
  have h2 := blen_le_of_lt (k := 8) (c.byte_lt q)
  have h3 := blen_le h
  have h4 := blen_lt (c.byte q)
  rw [← c.bits_byte q] at h3 h4
  rw [← c.bits_byte q]
  rw [c.bits_byte q] at *
  exact c.una_num (8 * q) 8 (blen (c.byte q)) h1 h2 (by rw [c.bits_byte]; exact h3) (by rw [c.bits_byte]; exact h4)
theorem Cfg.byte_zero (c : Cfg) (q : Nat) : c.byte q = 0 ↔ c.bits (8 * q) 8 = 0 := by rw [c.bits_byte]
theorem Cfg.blen_res (c : Cfg) (p m n : Nat) (h : c.una p m) (hm : m < n) (hn : n ≤ 64) : blen (c.res p n) = 64 - m := by
  refine blen_unique ?_ (.inr ?_)
  · rw [c.res_split p m n (by omega) hn, h.1, Nat.zero_mul, Nat.zero_add]
    exact c.res_rest p m n (by omega) hn
  · have h1 : c.bits p (m + 1) = 1 := by
      show 2 * c.bits p m + c.bit (p + m) = 1
      rw [h.1, h.2]
    rw [c.res_split p (m + 1) n (by omega) hn, h1, Nat.one_mul, show 64 - m - 1 = 64 - (m + 1) by omega]
    exact Nat.le_add_right _ _
theorem Cfg.res_none (c : Cfg) (p n : Nat) (h : c.bits p n = 0) : c.res p n = 0 := by unfold res; rw [h, Nat.zero_mul]

theorem fskip_int {B : Nat} {w : World} {rb fb bs : Nat} {c : Cfg} {tk p n ft left k err : Nat} {v : Value} {xs : List Value} (h : FastV B w rb fb bs c tk p n ft left k err v xs) {z : Int} {j : Nat} (hz : z = (j : Int)) (hj : j ≤ n) :
    Calls Tryz.prog 128 #[.pointer (some ⟨rb, 0, none⟩), .int .i64 z] w fun e w' => e = .returned (.tuple #[]) ∧ Fr (rb :: fb :: v.ownBlock.toList) w w' ∧
      ∃ tk' v' xs', FastV B w' rb fb bs c tk' (p + j) (n - j) ft left k err v' xs' ∧ (∀ g, v'.ownBlock = some g → v.ownBlock = some g ∨ w.heap.size ≤ g) := by
  subst hz
  refine (fskip_any h j hj).mono ?_
  rintro e w' ⟨h1, h2, v', xs', h3, h4⟩
  exact ⟨h1, h2, _, v', xs', h3, h4⟩
theorem fskip_all {B : Nat} {w : World} {rb fb bs : Nat} {c : Cfg} {tk p n ft left k err : Nat} {v : Value} {xs : List Value} (h : FastV B w rb fb bs c tk p n ft left k err v xs) :
    Calls Tryz.prog 128 #[.pointer (some ⟨rb, 0, none⟩), .int .i64 n] w fun e w' => e = .returned (.tuple #[]) ∧ Fr (rb :: fb :: v.ownBlock.toList) w w' ∧
      ∃ v' xs', FastV B w' rb fb bs c (tk + (n + 7) / 8) (p + n) 0 ft left k err v' xs' ∧ (∀ g, v'.ownBlock = some g → v.ownBlock = some g ∨ w.heap.size ≤ g) := by
  refine (fskip_any h n (Nat.le_refl _)).mono ?_
  rintro e w' ⟨h1, h2, v', xs', h3, h4⟩
  rw [Nat.sub_self] at h3
  exact ⟨h1, h2, v', xs', h3, h4⟩
theorem fill_int {B : Nat} {w : World} {rb fb bs : Nat} {c : Cfg} {tk p n ft left k err : Nat} {v : Value} {xs : List Value} (h : FastV B w rb fb bs c tk p n ft left k err v xs) {z : Int} {need : Nat} (hz : z = (need : Int)) (h56 : need ≤ 56) (hp : p + need ≤ 8 * c.lim.1) :
    Calls Tryz.prog 127 #[.pointer (some ⟨rb, 0, none⟩), .int .i64 z] w fun e w' => e = .returned .nilIface ∧ Fr [rb, fb, bs] w w' ∧ ∃ n' ft' left k err, need ≤ n' ∧ FastV B w' rb fb bs c tk p n' ft' left k err v xs := by
  subst hz; exact fill_ok h need h56 hp

theorem FastV.taken {B : Nat} {w w' : World} {rb fb bs : Nat} {c : Cfg} {tk p ft left k err j : Nat} {v v' : Value} {xs xs' : List Value} (h : FastV B w rb fb bs c tk p 0 ft left k err v xs) (hf : Fr (fb :: v.ownBlock.toList) w w') (hv : FeedV B w' fb bs c (tk + j) ft left k err 0 v' xs') :
    FastV B w' rb fb bs c (tk + j) (p + 8 * j) 0 ft left k err v' xs' := by
  have hpos := h.pos
  refine ⟨?_, hv, h.above, by omega, by omega, hv.le⟩
  have hb := hf.blk h.blk (by
    rw [List.mem_cons]; rintro (e | e)
    · exact h.ne_fb e
    · exact h.ne_own (by simpa using e))
  have e1 : c.res p 0 = 0 := c.res_none p 0 rfl
  have e2 : c.res (p + 8 * j) 0 = 0 := c.res_none _ 0 rfl
  rw [e1] at hb
  rw [e2]; exact hb

end Go.Proofs.YtnjebaaebhlibaaGreatDoor
