/-
  bitio.fast, walked: fill.
-/
import Derived.Test.YthigfpaajbejdaaGreatDoorFast
namespace Go.Proofs.YthigfpaajbejdaaGreatDoor
open Go.RowKit

theorem fill_val (c : Cfg) (p m q : Nat) (hm : m ≤ 56) (hq : p + m = 8 * q) : bits .or .u64 ((c.res p m : Nat) : Int) (IntKind.u64.wrap (IntKind.u64.wrap ((c.byte q : Nat) : Int) * 2 ^ (56 - m))) = ((c.res p (m + 8) : Nat) : Int) := by
  have hb := c.byte_lt q
  have e : IntKind.u64.wrap ((c.byte q : Nat) : Int) = ((c.byte q : Nat) : Int) := by rw [IntKind.wrap_u64]; omega
  rw [e, shl_val]
  refine (u64_or_nat _ _ (c.res_lt p m (by omega)) (Nat.mod_lt _ (by decide))).trans ?_
  rw [c.res_fill p m q hm hq]
set_option maxRecDepth 100000 in
set_option maxHeartbeats 4000000 in
theorem fill_go {B : Nat} {w : World} {rb fb bs : Nat} {c : Cfg} {tk p n ft left k err : Nat} {v : Value} {xs : List Value} (h : FastV B w rb fb bs c tk p n ft left k err v xs) (need : Nat) (hn : n < need) (h56 : need ≤ 56) (hp : p + need ≤ 8 * c.lim.1) :
    Calls Tryz.prog 257 #[.pointer (some ⟨rb, 0, none⟩), .int .i64 need] w fun e w' => e = .returned .nilIface ∧ Fr [rb, fb, bs] w w' ∧ ∃ n' ft' left k err, need ≤ n' ∧ FastV B w' rb fb bs c tk p n' ft' left k err v xs := by
  have hc := h.blk.cell
  have h1 : ¬ (need : Int) ≤ (n : Int) := by omega
  have hpos := h.pos
  have hn64 := h.n64
  have hw : tk + ((n + 7) / 8 + (need - n + 7) / 8) ≤ c.lim.1 := by omega
  have hq : Hid ((((n + 7) / 8 : Nat) : Int) + ((need : Int) - (n : Int) + 7) / 8 = (((n + 7) / 8 + (need - n + 7) / 8 : Nat) : Int)) := by unfold Hid; omega
  have hP := Hid.mk hpos
  clear hp hpos
  go_enter Tryz.func257, Tryz.ntmps257
  go_wp2_with fail
  go_still_tail 18, (by kernel_rfl)
  go_wp2_with (go_at_call 242; refine (want_int (h.feed.drewN 1) hq.out hw).mono ?_; rintro e w1 ⟨rfl, hf1, ft1, l1, k1, e1, hle1, hin1, hv1⟩; have hs1 := (h.drewN 1).want hf1 hle1 hv1; have hc1 := hs1.blk.cell)
  clear hc1
  go_loopg [] (64 - n) (fun g wx => ∃ m : Nat, g = 64 - m ∧ n ≤ m ∧ FastV B wx rb fb bs c tk p m ft1 l1 k1 e1 v xs ∧ Fr [rb] w1 wx)
  case atStart => exact ⟨n, rfl, Nat.le_refl _, hs1, Fr.refl _ _⟩
  case round =>
    obtain ⟨m, hg, hm, hs, hF⟩ := hrel
    have hc := hs.blk.cell
    have hm64 := hs.n64
    have hG := Hid.mk hg
    clear hg
    by_cases hm56 : m ≤ 56
    · have hm56' : (m : Int) ≤ 56 := by omega
      by_cases hft : (m + 7) / 8 < ft1 - tk
      · have hft' : (((m + 7) / 8 : Nat) : Int) < ((ft1 - tk : Nat) : Int) := by omega
        go_wp2_with fail
        go_quiet ((go_at_call 261; exact quiet_eq (there_any (hs.feed.drewN _))))
        have hsq := hs.drewN nq
        have hcq := hsq.blk.cell
        have hzq := hsq.blk.frozen
        have hFq : Fr [rb] w1 (wr.drewN nq) := hF.drewN' nq
        generalize wr.drewN nq = wq at hsq hcq hzq hFq ⊢
        clear hc hs hF
        go_wp2_with fail
        refine wp_region_still_tail 24 (by kernel_rfl) (by kernel_rfl) ?_
        simp only [List.take_succ_cons, List.take_zero, List.drop_succ_cons, List.drop_zero]
        have hqp : Hid (((m : Int) + 7) / 8 = (((m + 7) / 8 : Nat) : Int)) := by unfold Hid; omega
        repeat still_step
        still_call (back (peek_int hsq.feed.drew' hqp.out (by omega)))
        have hw56 : IntKind.i64.wrap (56 - (m : Int)) = 56 - (m : Int) := IntWalk.i64_in _ (by omega)
        have hw0 : (0 : Int) ≤ 56 - (m : Int) := by omega
        have hwn : (56 - (m : Int)).toNat = 56 - m := by omega
        repeat still_step
        refine wpStill_nil ?_
        clear hw56 hw0 hwn
        go_wp2_with fail
        go_roundg (64 - (m + 8))
        case measure => have := hG.out; omega
        case rel =>
          have hP1 : p + m = 8 * (tk + (m + 7) / 8) := hsq.pos
          refine ⟨m + 8, rfl, by omega, ⟨?_, hsq.feed.keep (S := [rb]) (Fr.drew' (fr3 rb wq 1 2 3 _ _ _)) ?_ ?_ ?_ ?_, h.above, by omega, by omega, by omega⟩, hFq.same (Fr.drew' (fr3 rb wq 1 2 3 _ _ _))⟩
          · have hb4 := (((hsq.blk.set 1 (.int .u64 (bits .or .u64 (↑(c.res p m)) (IntKind.u64.wrap (IntKind.u64.wrap ↑(c.byte (tk + (m + 7) / 8)) * 2 ^ (56 - m)))))).set 2 (.int .i64 (↑m + 8))).set 3 (.int .i64 ((↑m + 7) / 8 + 1))).drewN 1
            have e1 := fill_val c p m (tk + (m + 7) / 8) hm56 hP1
            have e3 : (((m : Int) + 7) / 8 + 1) = (((m + 8 + 7) / 8 : Nat) : Int) := by omega
            rw [e3] at hb4 ⊢
            rw [e1] at hb4 ⊢
            exact hb4
          · simpa using hsq.ne_fb.symm
          · simpa using hsq.ne_bs.symm
          · intro g hg he
            have := hsq.ne_own
            simp at he; subst he; exact this hg
          · simpa using h.above
      · have hft' : ¬ (((m + 7) / 8 : Nat) : Int) < ((ft1 - tk : Nat) : Int) := by omega
        go_wp2_with fail
        go_quiet ((go_at_call 261; exact quiet_eq (there_any (hs.feed.drewN _))))
        go_wp2_with fail
        go_ret
        have h4 := hs.pos
        have h5 := hs.inft
        have h6 := hP.out
        refine ⟨rfl, ?_, m, ft1, l1, k1, e1, by omega, hs.drewN _⟩
        exact (((Fr.drewN [rb, fb, bs] w 1).same (hf1.mono (fun k hk => .inl (List.mem_cons_of_mem _ hk)))).same (hF.mono (fun k hk => .inl (by rw [List.mem_singleton] at hk; subst hk; exact List.mem_cons_self ..)))).drewN' _
    · have hm56' : ¬ (m : Int) ≤ 56 := by omega
      have hmd : decide ((m : Int) ≤ 56) = false := decide_eq_false hm56'
      go_wp2_with fail
      go_quiet (fail)
      go_wp2_with fail
      go_ret
      refine ⟨rfl, ?_, m, ft1, l1, k1, e1, by omega, hs.drewN _⟩
      exact (((Fr.drewN [rb, fb, bs] w 1).same (hf1.mono (fun k hk => .inl (List.mem_cons_of_mem _ hk)))).same (hF.mono (fun k hk => .inl (by rw [List.mem_singleton] at hk; subst hk; exact List.mem_cons_self ..)))).drewN' _
end Go.Proofs.YthigfpaajbejdaaGreatDoor
