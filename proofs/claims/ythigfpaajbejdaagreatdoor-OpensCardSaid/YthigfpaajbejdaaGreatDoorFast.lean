/-
  bitio.fast, walked: skip, fill, At.
-/
import Derived.Test.YthigfpaajbejdaaGreatDoorSlow
import Derived.Deep.LoopGhost
import Derived.IntWalk
namespace Go.Proofs.YthigfpaajbejdaaGreatDoor
open Go.RowKit

/-- A quick reader stands in block rb, over the feed in block fb: p bits read, n bits in the reservoir. -/
structure FastV (B : Nat) (w : World) (rb fb bs : Nat) (c : Cfg) (tk p n ft left k err : Nat) (v : Value) (xs : List Value) : Prop where
  blk : Blk w rb #[.pointer (some ⟨fb, 0, none⟩), .int .u64 (c.res p n), .int .i64 n, .int .i64 ((n + 7) / 8 : Nat)] 235
  feed : FeedV B w fb bs c tk ft left k err 0 v xs
  above : B ≤ rb
  pos : p + n = 8 * (tk + (n + 7) / 8)
  n64 : n ≤ 64
  inft : tk + (n + 7) / 8 ≤ ft

section
variable {B : Nat} {w w' : World} {rb fb bs : Nat} {c : Cfg} {tk p n ft left k err : Nat} {v : Value} {xs : List Value}
theorem FastV.still (h : FastV B w rb fb bs c tk p n ft left k err v xs) (hf : Fr [] w w') : FastV B w' rb fb bs c tk p n ft left k err v xs := ⟨hf.blk h.blk (by simp), h.feed.still hf, h.above, h.pos, h.n64, h.inft⟩
theorem FastV.drewN (h : FastV B w rb fb bs c tk p n ft left k err v xs) (m : Nat) : FastV B (w.drewN m) rb fb bs c tk p n ft left k err v xs := h.still (Fr.drewN [] w m)
theorem FastV.ne_fb (h : FastV B w rb fb bs c tk p n ft left k err v xs) : rb ≠ fb := h.blk.ne h.feed.blk (by decide)
theorem FastV.ne_bs (h : FastV B w rb fb bs c tk p n ft left k err v xs) : rb ≠ bs := by
  obtain ⟨a, cap, hb, _⟩ := h.feed.src.row
  exact h.blk.ne hb (by decide)
theorem FastV.ne_own (h : FastV B w rb fb bs c tk p n ft left k err v xs) : v.ownBlock ≠ some rb := own_ne h.feed.own h.blk (by decide)
theorem FastV.size (h : FastV B w rb fb bs c tk p n ft left k err v xs) : B ≤ w.heap.size := Nat.le_of_lt (Nat.lt_of_le_of_lt h.above h.blk.lt)
theorem FastV.small (h : FastV B w rb fb bs c tk p n ft left k err v xs) : tk ≤ 1048576 ∧ ft ≤ 1048576 ∧ p ≤ 8388608 := by
  have h1 := h.feed.ft_le
  have h2 := h.inft
  have h3 := h.pos
  omega
theorem FastV.want (h : FastV B w rb fb bs c tk p n ft left k err v xs) (hf : Fr [fb, bs] w w') {ft' left' k' err' : Nat} (hle : ft ≤ ft') (hv : FeedV B w' fb bs c tk ft' left' k' err' 0 v xs) : FastV B w' rb fb bs c tk p n ft' left' k' err' v xs :=
  ⟨hf.blk h.blk (by
    intro hm
    simp only [List.mem_cons, List.not_mem_nil, or_false] at hm
    rcases hm with e | e
    · exact h.ne_fb e
    · exact h.ne_bs e), hv, h.above, h.pos, h.n64, Nat.le_trans h.inft hle⟩
end
theorem FeedV.drew' {B : Nat} {w : World} {fb bs : Nat} {c : Cfg} {tk ft left k err emp : Nat} {v : Value} {xs : List Value} (h : FeedV B w fb bs c tk ft left k err emp v xs) : FeedV B w.drew fb bs c tk ft left k err emp v xs := h.still (Fr.refl [] w).drew'
theorem back {P : Program} {f : FuncId} {args : Array Value} {w : World} {v : Value} (h : Calls P f args w fun e w' => e = .returned v ∧ w = w') : Calls P f args w fun e w' => e = .returned v ∧ w' = w :=
  h.mono fun _ _ ⟨h1, h2⟩ => ⟨h1, h2.symm⟩
theorem nat_pow_int (k : Nat) : ((2 : Int) ^ k) = ((2 ^ k : Nat) : Int) := by simp
theorem shl_val (x k : Nat) : IntKind.u64.wrap ((x : Int) * 2 ^ k) = ((x * 2 ^ k % 18446744073709551616 : Nat) : Int) := by
  rw [nat_pow_int, IntKind.wrap_u64, ← Int.natCast_mul]
  omega

set_option maxRecDepth 100000 in
set_option maxHeartbeats 1000000 in
theorem fskip_any {B : Nat} {w : World} {rb fb bs : Nat} {c : Cfg} {tk p n ft left k err : Nat} {v : Value} {xs : List Value} (h : FastV B w rb fb bs c tk p n ft left k err v xs) (j : Nat) (hj : j ≤ n) :
    Calls Tryz.prog 258 #[.pointer (some ⟨rb, 0, none⟩), .int .i64 j] w fun e w' => e = .returned (.tuple #[]) ∧ Fr (rb :: fb :: v.ownBlock.toList) w w' ∧
      ∃ v' xs', FastV B w' rb fb bs c (tk + ((n + 7) / 8 - (n - j + 7) / 8)) (p + j) (n - j) ft left k err v' xs' ∧ (∀ g, v'.ownBlock = some g → v.ownBlock = some g ∨ w.heap.size ≤ g) := by
  have hb0 := h.blk
  have hc := h.blk.cell
  have hz := h.blk.frozen
  have hsm := h.small
  have hn64 := h.n64
  have hpos := h.pos
  have hin := h.inft
  have hni : rb ∉ fb :: v.ownBlock.toList := by
    rw [List.mem_cons]; rintro (e | e)
    · exact h.ne_fb e
    · exact h.ne_own (by simpa using e)
  have hq : Hid ((((n + 7) / 8 : Nat) : Int) - ((n : Int) - (j : Int) + 7) / 8 = (((n + 7) / 8 - (n - j + 7) / 8 : Nat) : Int)) := by unfold Hid; omega
  go_enter Tryz.func258, Tryz.ntmps258
  go_wp2_with fail
  have hb1 : Blk ((w.setCell ⟨rb, 1, none⟩ (.int .u64 (IntKind.u64.wrap (↑(c.res p n) * 2 ^ j)))).setCell ⟨rb, 2, none⟩ (.int .i64 (↑n - ↑j))) rb #[.pointer (some ⟨fb, 0, none⟩), .int .u64 (IntKind.u64.wrap (↑(c.res p n) * 2 ^ j)), .int .i64 (↑n - ↑j), .int .i64 ((n + 7) / 8 : Nat)] 235 := (hb0.set 1 _).set 2 _
  have hF1 : Fr [rb] w ((w.setCell ⟨rb, 1, none⟩ (.int .u64 (IntKind.u64.wrap (↑(c.res p n) * 2 ^ j)))).setCell ⟨rb, 2, none⟩ (.int .i64 (↑n - ↑j))) := fr2 rb w 1 2 _ _
  generalize (w.setCell ⟨rb, 1, none⟩ (.int .u64 (IntKind.u64.wrap (↑(c.res p n) * 2 ^ j)))).setCell ⟨rb, 2, none⟩ (.int .i64 (↑n - ↑j)) = W at hb1 hF1 ⊢
  have hbw := hb1.cell
  have hfd : FeedV B W fb bs c tk ft left k err 0 v xs := h.feed.keep hF1 (by simpa using h.ne_fb.symm) (by simpa using h.ne_bs.symm) (fun g hg he => by simp at he; subst he; exact h.ne_own hg) (by simpa using h.above)
  clear hc hz hb0
  go_quiet (fail)
  have hb2 := hb1.drewN nq
  have hbw2 := hb2.cell
  have hfz2 := hb2.frozen
  go_wp2_with (go_at_call 252; refine (take_int (hfd.drewN _) hq.out (by omega) (by simpa [World.drewN] using Nat.le_trans h.size hF1.size)).mono ?_; rintro e w1 ⟨rfl, hf1, v1, xs1, hv1, hn1⟩; have hb3 := hf1.blk hb2 hni; have hc3 := hb3.cell; have hz3 := hb3.frozen)
  go_end0
  have hF : Fr (rb :: fb :: v.ownBlock.toList) w w1 := ((hF1.drewN' nq).mono (fun k hk => .inl (by rw [List.mem_singleton] at hk; subst hk; exact List.mem_cons_self ..))).same (hf1.mono (fun k hk => .inl (List.mem_cons_of_mem _ hk)))
  refine ⟨rfl, hF.set' _ (List.mem_cons_self ..), v1, xs1, ⟨?_, hv1.keep (S := [rb]) (Fr.set _ (List.mem_singleton.2 rfl)) ?_ ?_ ?_ ?_, h.above, by omega, by omega, by omega⟩, fun g hg => (hn1 g hg).imp_right (fun hh => Nat.le_trans hF1.size (by simpa [World.drewN] using hh))⟩
  · have hb4 := hb3.set 3 (.int .i64 ((↑n + 7) / 8 - ((↑n + 7) / 8 - (↑n - ↑j + 7) / 8)))
    have e1 : IntKind.u64.wrap (↑(c.res p n) * 2 ^ j) = ((c.res (p + j) (n - j) : Nat) : Int) := by rw [shl_val, c.res_skip p j n hj hn64]
    have e2 : ((n : Int) - (j : Int)) = ((n - j : Nat) : Int) := by omega
    have e3 : (((n : Int) + 7) / 8 - (((n : Int) + 7) / 8 - ((n : Int) - (j : Int) + 7) / 8)) = (((n - j + 7) / 8 : Nat) : Int) := by omega
    rw [e3] at hb4 ⊢
    rw [e1, e2] at hb4
    exact hb4
  · simpa using h.ne_fb.symm
  · simpa using h.ne_bs.symm
  · intro g hg he
    have := own_ne hv1.own hb3 (by decide)
    rw [hg] at this
    simp at he; exact this (congrArg some he)
  · simpa using h.above

set_option maxRecDepth 100000 in
set_option maxHeartbeats 1000000 in
theorem qAt_any {B : Nat} {w : World} {rb fb bs : Nat} {c : Cfg} {tk p n ft left k err : Nat} {v : Value} {xs : List Value} (h : FastV B w rb fb bs c tk p n ft left k err v xs) :
    Calls Tryz.prog 254 #[.pointer (some ⟨rb, 0, none⟩)] w fun e w' => e = .returned (.int .i64 p) ∧ ∃ n, w' = w.drewN n := by
  have hc := h.blk.cell
  have hsm := h.small
  have hn64 := h.n64
  have hpos := Hid.mk h.pos
  go_enter Tryz.func254, Tryz.ntmps254
  go_wp2_with fail
  go_quiet ((go_at_call 248; exact quiet_eq (taken_any (h.feed.drewN _))))
  go_wp2_with fail
  go_ret
  refine ⟨congrArg (fun z => Ending.returned (.int .i64 z)) ?_, nq, rfl⟩
  have := hpos.out
  show (8 * ((tk : Int) + (((n : Int) + 7) / 8)) - (n : Int)) = (p : Int)
  omega

/-- What fill leaves alone. -/
theorem fill_none {B : Nat} {w : World} {rb fb bs : Nat} {c : Cfg} {tk p n ft left k err : Nat} {v : Value} {xs : List Value} (h : FastV B w rb fb bs c tk p n ft left k err v xs) (need : Nat) (hn : need ≤ n) :
    Calls Tryz.prog 257 #[.pointer (some ⟨rb, 0, none⟩), .int .i64 need] w fun e w' => e = .returned .nilIface ∧ w = w' := by
  have hc := h.blk.cell
  have h1 : (need : Int) ≤ (n : Int) := by omega
  go_enter Tryz.func257, Tryz.ntmps257
  go_wp2_with fail
  go_ret
  exact ⟨rfl, rfl⟩
set_option maxRecDepth 100000 in
set_option maxHeartbeats 1000000 in
theorem fill_not {B : Nat} {w : World} {rb fb bs : Nat} {c : Cfg} {tk p n ft left k err : Nat} {v : Value} {xs : List Value} (h : FastV B w rb fb bs c tk p n ft left k err v xs) (need : Nat) (hn : n < need) (h64 : need ≤ 64) (hp : 8 * c.lim.1 < p + need) (hl : wantE c.lim.2 ≠ 0) :
    Calls Tryz.prog 257 #[.pointer (some ⟨rb, 0, none⟩), .int .i64 need] w fun e w' => e = .returned (.iface (errT (wantE c.lim.2)) (.int .i64 (errN (wantE c.lim.2)))) ∧ Fr [fb, bs] w w' ∧ ∃ ft' left k err, FastV B w' rb fb bs c tk p n ft' left k err v xs := by
  have hc := h.blk.cell
  have h1 : ¬ (need : Int) ≤ (n : Int) := by omega
  have hpos := h.pos
  have hn64 := h.n64
  have hw : c.lim.1 < tk + ((n + 7) / 8 + (need - n + 7) / 8) := by omega
  have hq : Hid ((((n + 7) / 8 : Nat) : Int) + ((need : Int) - (n : Int) + 7) / 8 = (((n + 7) / 8 + (need - n + 7) / 8 : Nat) : Int)) := by unfold Hid; omega
  obtain ⟨hh, hlf⟩ := errV_leaf hl
  have hln := hlf.nnil
  clear hp hlf
  go_enter Tryz.func257, Tryz.ntmps257
  go_wp2_with fail
  go_still_tail 18, (by kernel_rfl)
  go_wp2_with (go_at_call 242; refine (want_not (h.feed.drewN 1) hq.out hw hl).mono ?_; rintro e w1 ⟨rfl, hf1, ft1, l1, k1, e1, hle1, hv1⟩; have hs1 := (h.drewN 1).want hf1 hle1 hv1; have hc1 := hs1.blk.cell)
  go_ret
  exact ⟨rfl, (Fr.drewN _ w 1).same hf1, _, _, _, _, hs1⟩

end Go.Proofs.YthigfpaajbejdaaGreatDoor
