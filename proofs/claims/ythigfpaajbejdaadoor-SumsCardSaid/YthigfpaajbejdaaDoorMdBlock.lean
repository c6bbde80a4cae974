/-
  check.Hash.block, walked.
-/
import Derived.Test.YthigfpaajbejdaaDoorMdWalk
import Derived.StillTailTactics
namespace Go.Proofs.YthigfpaajbejdaaDoor
open Go.RowKit

theorem Hid.mk' {p : Prop} (h : p) : Hid p := h

/-- What the sum reads of the package variables. -/
structure MdGl (w : World) : Prop where
  adds : ∀ i, i < 64 → w.cell? ⟨1, i, none⟩ = some (.int .u32 (Md.sines.getD i 0))
  turns : ∀ i, i < 16 → w.cell? ⟨2, i, none⟩ = some (.int .i64 (Md.turns.getD i 0))
theorem MdGl.keep {S : List Nat} {w w' : World} (h : MdGl w) (hf : Fr S w w') (h1 : 1 ∉ S) (h2 : 2 ∉ S) : MdGl w' :=
  ⟨fun i hi => hf.cell (h.adds i hi) h1, fun i hi => hf.cell (h.turns i hi) h2⟩
/-- A sum stands in block hb: its words, its rest, how many bytes it took. -/
def HashB (w : World) (hb : Nat) (s : Md.St) (rest n : Value) : Prop := Blk w hb #[.int .u32 s.a, .int .u32 s.b, .int .u32 s.c, .int .u32 s.d, rest, n] 117
theorem HashB.blk {w : World} {hb : Nat} {s : Md.St} {rest n : Value} (h : HashB w hb s rest n) : Blk w hb #[.int .u32 s.a, .int .u32 s.b, .int .u32 s.c, .int .u32 s.d, rest, n] 117 := h

/-- A word of which j bytes have come. -/
def part (l : Nat → Nat) (o g : Nat) : Nat → Nat
  | 0 => 0
  | j + 1 => part l o g j + 256 ^ j * l (o + 4 * g + j)
theorem part_four (l : Nat → Nat) (o g : Nat) : part l o g 4 = Md.word l o g := by
  simp only [part, Md.word, Nat.reducePow, Nat.add_zero]; omega
theorem part_lt {l : Nat → Nat} (h : ∀ i, l i < 256) (o g : Nat) : ∀ j, part l o g j < 256 ^ j
  | 0 => by simp [part]
  | j + 1 => by
    have ih := part_lt h o g j
    have hb := h (o + 4 * g + j)
    have h1 : 256 ^ j * l (o + 4 * g + j) ≤ 256 ^ j * 255 := Nat.mul_le_mul_left _ (by omega)
    show part l o g j + 256 ^ j * l (o + 4 * g + j) < 256 ^ (j + 1)
    rw [Nat.pow_succ]; omega
/-- The words when i bytes have come. -/
def wcell (l : Nat → Nat) (o i g : Nat) : Nat := part l o g (min 4 (i - 4 * g))

theorem rot32_int {z : Int} {x n : Nat} (hz : z = (x : Int)) (hx : x < 4294967296) (hn : 4 ≤ n) (hn2 : n ≤ 23) (w : World) :
    Calls Tryd.prog 59 #[.int .u32 z, .int .i64 n] w fun e w' => e = .returned (.int .u32 (Md.rot x n)) ∧ w = w' := by
  subst hz; exact rot32_any x n hx hn hn2 w
theorem sum32 (f a s x M : Int) : (f + ((a + s) % M + x) % M) % M = (f + a + s + x) % M := by
  rw [Int.emod_add_emod, Int.add_emod_emod]
  congr 1
  omega
theorem sum32v (mf a sn wd F : Nat) (h : F = (mf + a + sn + wd) % 4294967296) : IntKind.u32.wrap ((mf : Int) + IntKind.u32.wrap (IntKind.u32.wrap ((a : Int) + (sn : Int)) + (wd : Int))) = (F : Int) := by
  rw [IntKind.wrap_u32', IntKind.wrap_u32', IntKind.wrap_u32', sum32, h]
  omega
/-- The words stand in block wb. -/
def WB (w : World) (wb : Nat) (f : Nat → Nat) : Prop := ∃ cs : Array Value, Blk w wb cs 155 ∧ cs.size = 16 ∧ ∀ g, g < 16 → cs[g]? = some (.int .u32 (f g))
theorem WB.cell {w : World} {wb : Nat} {f : Nat → Nat} (h : WB w wb f) (g : Nat) (hg : g < 16) : w.cell? ⟨wb, g, none⟩ = some (.int .u32 (f g)) := by
  obtain ⟨cs, hb, _, hc⟩ := h
  rw [hb.cell g, hc g hg]
theorem WB.frozen {w : World} {wb : Nat} {f : Nat → Nat} (h : WB w wb f) (g : Nat) : w.frozen? ⟨wb, g, none⟩ = false := by
  obtain ⟨cs, hb, _⟩ := h
  exact hb.frozen g
theorem WB.keep {w w' : World} {wb : Nat} {S : List Nat} {f : Nat → Nat} (h : WB w wb f) (hf : Fr S w w') (hS : wb ∉ S) : WB w' wb f := by
  obtain ⟨cs, hb, h1, h2⟩ := h
  exact ⟨cs, hf.blk hb hS, h1, h2⟩
theorem WB.set {w : World} {wb : Nat} {f f' : Nat → Nat} (h : WB w wb f) (m : Nat) (hm : m < 16) (hf : ∀ g, g < 16 → g ≠ m → f' g = f g) (v : Value) (hv : v = .int .u32 (f' m)) : WB (w.setCell ⟨wb, m, none⟩ v) wb f' := by
  obtain ⟨cs, hb, h1, h2⟩ := h
  refine ⟨_, hb.set m v, by simpa using h1, fun g hg => ?_⟩
  rw [Array.getElem?_setIfInBounds]
  by_cases he : m = g
  · subst he
    rw [if_pos rfl, if_pos (by omega), hv]
  · rw [if_neg he, h2 g hg, hf g hg (fun h => he h.symm)]
theorem wcell_now (l : Nat → Nat) (o i : Nat) : wcell l o i (i / 4) = part l o (i / 4) (i % 4) := by
  unfold wcell; congr 1; omega
theorem wcell_next (l : Nat → Nat) (o i : Nat) : wcell l o (i + 1) (i / 4) = part l o (i / 4) (i % 4) + 256 ^ (i % 4) * l (o + i) := by
  unfold wcell
  rw [show min 4 (i + 1 - 4 * (i / 4)) = i % 4 + 1 by omega]
  show part l o (i / 4) (i % 4) + 256 ^ (i % 4) * l (o + 4 * (i / 4) + i % 4) = _
  rw [show o + 4 * (i / 4) + i % 4 = o + i by omega]
theorem wcell_other (l : Nat → Nat) (o i g : Nat) (h : g ≠ i / 4) : wcell l o (i + 1) g = wcell l o i g := by
  unfold wcell; congr 1; omega
theorem join_byte (x b j : Nat) (hx : x < 256 ^ j) (hb : b < 256) (hj : j < 4) : bits .or .u32 (x : Int) ((b : Int) * 2 ^ (8 * j) % 4294967296) = ((x + 256 ^ j * b : Nat) : Int) := by
  have hp : (2 : Nat) ^ (8 * j) = 256 ^ j := by rw [Nat.pow_mul]
  have h4 : (256 : Nat) ^ j * 256 ≤ 4294967296 := by
    rw [← Nat.pow_succ]
    exact Nat.le_trans (Nat.pow_le_pow_right (n := 256) (by decide) (show j + 1 ≤ 4 by omega)) (by decide)
  have hlt : b * 256 ^ j < 4294967296 := by
    have : b * 256 ^ j ≤ 255 * 256 ^ j := Nat.mul_le_mul_right _ (by omega)
    have := Nat.two_pow_pos (8 * j)
    rw [hp] at this
    omega
  have e1 : ((b : Int) * 2 ^ (8 * j) % 4294967296) = ((b * 256 ^ j : Nat) : Int) := by
    rw [pow_int, hp, ← Int.natCast_mul]; omega
  rw [e1]
  refine (or32 (by omega) hlt).trans ?_
  rw [Nat.or_comm, nat_join (8 * j) (b * 256 ^ j) x (by rw [hp]; exact Nat.mul_mod_left _ _) (by rw [hp]; exact hx), Nat.add_comm, Nat.mul_comm]

set_option maxRecDepth 100000 in
set_option maxHeartbeats 700000 in
theorem block_any {w : World} {hb sb off cap : Nat} {st : Md.St} {rest n : Value} {l : Nat → Nat} {o : Nat} (hok : st.ok) (hl : ∀ i, l i < 256) (hh : HashB w hb st rest n) (hg : MdGl w)
    (hs : ∀ i, i < 64 → w.cell? ⟨sb, off + i, none⟩ = some (.int .u8 (l (o + i)))) :
    Calls Tryd.prog 45 #[.pointer (some ⟨hb, 0, none⟩), .slice (some ⟨sb, off, none⟩) 64 cap] w fun e w' => e = .returned (.tuple #[]) ∧ HashB w' hb (Md.block (Md.word l o) st) rest n ∧ Fr [hb] w w' := by
  go_enter Tryd.func45, Tryd.ntmps45
  have hF0 : Fr [] w (w.alloc (.cells (Array.replicate 16 (.int .u32 0)) 155)) := Fr.alloc [] w _
  go_wp2_with fail
  have hW0 : WB (w.alloc (.cells #[.int .u32 0, .int .u32 0, .int .u32 0, .int .u32 0, .int .u32 0, .int .u32 0, .int .u32 0, .int .u32 0, .int .u32 0, .int .u32 0, .int .u32 0, .int .u32 0, .int .u32 0, .int .u32 0, .int .u32 0, .int .u32 0] 155)) w.heap.size (wcell l o 0) := by
    refine ⟨_, Blk.new w _ _, rfl, fun g hg => ?_⟩
    have e : wcell l o 0 g = 0 := by unfold wcell; rw [show min 4 (0 - 4 * g) = 0 by omega]; rfl
    rw [e]
    rw [show (#[Value.int .u32 0, .int .u32 0, .int .u32 0, .int .u32 0, .int .u32 0, .int .u32 0, .int .u32 0, .int .u32 0, .int .u32 0, .int .u32 0, .int .u32 0, .int .u32 0, .int .u32 0, .int .u32 0, .int .u32 0, .int .u32 0] : Array Value) = Array.replicate 16 (.int .u32 0) from rfl, Array.getElem?_replicate, if_pos hg]
    rfl
  have hF1 : Fr [] w (w.alloc (.cells #[.int .u32 0, .int .u32 0, .int .u32 0, .int .u32 0, .int .u32 0, .int .u32 0, .int .u32 0, .int .u32 0, .int .u32 0, .int .u32 0, .int .u32 0, .int .u32 0, .int .u32 0, .int .u32 0, .int .u32 0, .int .u32 0] 155)) := Fr.alloc [] w _
  have hhb := hh.blk.lt
  have hsb : sb < w.heap.size := World.block_lt_of_cell? w _ (hs 0 (by decide))
  have hga : 1 < w.heap.size := World.block_lt_of_cell? w _ (hg.adds 0 (by decide))
  have hgt : 2 < w.heap.size := World.block_lt_of_cell? w _ (hg.turns 0 (by decide))
  obtain ⟨wb, hwb⟩ : ∃ wb, wb = w.heap.size := ⟨_, rfl⟩
  rw [← hwb] at hW0 ⊢
  have hwb' := Hid.mk' hwb
  have hne : hb ≠ wb ∧ sb ≠ wb ∧ 1 ≠ wb ∧ 2 ≠ wb := by omega
  clear hwb hF0
  generalize w.alloc (.cells #[.int .u32 0, .int .u32 0, .int .u32 0, .int .u32 0, .int .u32 0, .int .u32 0, .int .u32 0, .int .u32 0, .int .u32 0, .int .u32 0, .int .u32 0, .int .u32 0, .int .u32 0, .int .u32 0, .int .u32 0, .int .u32 0] 155) = w0 at *
  have hs0 : ∀ i, i < 64 → w0.cell? ⟨sb, off + i, none⟩ = some (.int .u8 (l (o + i))) := fun i hi => hF1.cell (hs i hi) (by simp)
  have hs0' := Hid.mk' hs0
  have hh0 : HashB w0 hb st rest n := hF1.blk hh.blk (by simp)
  have hg0 := hg.keep hF1 (by simp) (by simp)
  clear hs hs0 hh hg
  go_loopg [13] 64 (fun g s13 wx => ∃ i : Nat, g = 64 - i ∧ i ≤ 64 ∧ s13 = .int .i64 i ∧ WB wx wb (wcell l o i) ∧ Fr [wb] w0 wx)
  case atStart => exact ⟨0, rfl, by decide, rfl, hW0, Fr.refl _ _⟩
  case round =>
    obtain ⟨i, hgi, hi, rfl, hW, hF⟩ := hrel
    have hG := Hid.mk' hgi
    clear hgi
    by_cases hlt : i < 64
    · have hlt' : (i : Int) < 64 := by omega
      have hcell := hW.cell (i / 4) (by omega)
      have hfz := hW.frozen (i / 4)
      rw [wcell_now] at hcell
      have hpl := part_lt hl o (i / 4) (i % 4)
      have hbl := hl (o + i)
      have hbyte : wr.cell? ⟨sb, off + i, none⟩ = some (.int .u8 (l (o + i))) := hF.cell (hs0'.out i hlt) (by simpa using hne.2.1)
      have a1 : ((i : Int)).tdiv 4 = (i : Int) / 4 := Int.tdiv_eq_ediv_of_nonneg (by omega)
      have a2 : ((i : Int)).tmod 4 = (i : Int) % 4 := Int.tmod_eq_emod_of_nonneg (by omega)
      have a3 : IntKind.i64.wrap ((i : Int) / 4) = (i : Int) / 4 := IntWalk.i64_in _ (by omega)
      have a4 : IntKind.i64.wrap ((i : Int) % 4) = (i : Int) % 4 := IntWalk.i64_in _ (by omega)
      have a5 : IntKind.i64.wrap (8 * ((i : Int) % 4)) = 8 * ((i : Int) % 4) := IntWalk.i64_in _ (by omega)
      have a6 : ((i : Int) / 4).toNat = i / 4 := by omega
      have a7 : (8 * ((i : Int) % 4)).toNat = 8 * (i % 4) := by omega
      have a8 : (0 : Int) ≤ 8 * ((i : Int) % 4) := by omega
      have a9 : (0 : Int) ≤ (i : Int) / 4 := by omega
      have a10 : (i : Int) / 4 < 16 := by omega
      have a11 : (0 : Int) ≤ (i : Int) := by omega
      go_wp2_with fail
      refine wp_tail 15 (by kernel_rfl) (by kernel_rfl) ?_
      simp only [List.take_succ_cons, List.take_zero, List.drop_succ_cons, List.drop_zero]
      repeat still_step
      refine wpStill_nil ?_
      go_wp2_with fail
      go_roundg (64 - (i + 1))
      case measure => have := hG.out; omega
      case rel =>
        refine ⟨i + 1, rfl, by omega, by go_num, (hW.set (i / 4) (by omega) (fun g _ hne => wcell_other l o i g hne) _ ?_).keep (S := []) ((Fr.refl [] _).drew') (by simp), (hF.set' _ (List.mem_singleton.2 rfl)).drew'⟩
        rw [wcell_next]
        exact congrArg (Value.int .u32) (join_byte _ _ _ hpl hbl (by omega))
    · have hlt' : ¬ (i : Int) < 64 := by omega
      obtain rfl : i = 64 := by omega
      have hW1 : WB wr wb (Md.word l o) := by
        obtain ⟨cs, h1, h2, h3⟩ := hW
        refine ⟨cs, h1, h2, fun g hg => ?_⟩
        rw [h3 g hg, ← part_four]
        unfold wcell
        rw [show min 4 (64 - 4 * g) = 4 by omega]
      have hh1 : HashB wr hb st rest n := hF.blk hh0.blk (by simpa using hne.1)
      have hg1 := hg0.keep hF (by simpa using hne.2.2.1) (by simpa using hne.2.2.2)
      have hc1 := hh1.blk.cell
      clear hW hG
      go_wp2_with fail
      go_quiet (fail)
      go_wp2_with fail
      have hF2 : Fr [] wr (wr.drewN nq) := Fr.drewN [] wr nq
      have hFw : Fr [wb] w0 (wr.drewN nq) := hF.drewN' nq
      have hW2 := hW1.keep hF2 (by simp)
      have hh2 : HashB (wr.drewN nq) hb st rest n := hF2.blk hh1.blk (by simp)
      have hg2 := hg1.keep hF2 (by simp) (by simp)
      clear hc1 hh1 hg1 hW1 hF hF2
      generalize wr.drewN nq = w1 at *
      go_loopg [6, 7, 8, 9, 52] 64 (fun g s6 s7 s8 s9 s52 wx => ∃ k : Nat, g = 64 - k ∧ k ≤ 64 ∧ s6 = .int .u32 (Md.steps (Md.word l o) st k).a ∧ s7 = .int .u32 (Md.steps (Md.word l o) st k).b ∧ s8 = .int .u32 (Md.steps (Md.word l o) st k).c ∧ s9 = .int .u32 (Md.steps (Md.word l o) st k).d ∧ s52 = .int .i64 k ∧ Fr [] w1 wx)
      case atStart => exact ⟨0, rfl, by decide, rfl, rfl, rfl, rfl, rfl, Fr.refl _ _⟩
      case round =>
        obtain ⟨k, hgk, hk, rfl, rfl, rfl, rfl, rfl, hF3⟩ := hrel
        have hG3 := Hid.mk' hgk
        clear hgk
        have hsk := Md.steps_ok (Md.word l o) hok k
        by_cases hlk : k < 64
        · have hlk' : (k : Int) < 64 := by omega
          have hnx : Hid (Md.steps (Md.word l o) st (k + 1) = Md.step (Md.word l o) k (Md.steps (Md.word l o) st k)) := rfl
          generalize Md.steps (Md.word l o) st k = sk at *
          obtain ⟨a, b, c, d⟩ := sk
          obtain ⟨ha, hb2, hc, hd⟩ := hsk
          simp only at ha hb2 hc hd
          have hmf := Md.mixF_lt (k := k) hb2 hc hd
          have hmg := Md.mixG_lt hlk
          obtain ⟨ht1, ht2⟩ := Md.turn_bounds hlk
          have hsl := Md.sines_lt k
          have hwl := Md.word_lt hl o (Md.mixG k)
          have hca := (hg2.keep hF3 (by simp) (by simp)).adds k hlk
          have hct := (hg2.keep hF3 (by simp) (by simp)).turns (k / 16 * 4 + k % 4) (by omega)
          have hcw := (hW2.keep hF3 (by simp)).cell (Md.mixG k) hmg
          rw [show Md.turns.getD (k / 16 * 4 + k % 4) 0 = Md.turn k by unfold Md.turn; rw [Nat.mul_comm]] at hct
          have hS : Hid (Md.step (Md.word l o) k ⟨a, b, c, d⟩ = ⟨d, (b + Md.rot ((Md.mixF k b c d + a + Md.sines.getD k 0 + Md.word l o (Md.mixG k)) % 4294967296) (Md.turn k)) % 4294967296, b, c⟩) := rfl
          have hmixc := fun W => mix_any k b c d hlk hb2 hc hd W
          generalize Md.mixF k b c d = mf at *
          generalize Md.mixG k = mg at *
          generalize Md.sines.getD k 0 = sn at *
          generalize Md.word l o mg = wd at *
          generalize Md.turn k = tn at *
          have hmix' := Hid.mk' hmixc
          clear hmixc
          obtain ⟨F, hFe⟩ : ∃ F, F = (mf + a + sn + wd) % 4294967296 := ⟨_, rfl⟩
          rw [← hFe] at hS
          have hFlt : F < 4294967296 := by rw [hFe]; exact Nat.mod_lt _ (by decide)
          have hrl := Md.rot_lt (n := tn) hFlt
          have hz32 : Hid (((mf : Int) + ((a : Int) + (sn : Int) + (wd : Int))) % 4294967296 = (F : Int)) := by unfold Hid; rw [hFe]; omega
          have hrot' := Hid.mk' (fun W => rot32_int hz32.out hFlt ht1 ht2 W)
          have hFe' := Hid.mk' hFe
          clear hFe
          have k0 : (0 : Int) ≤ (k : Int) := by omega
          have g0 : (0 : Int) ≤ (mg : Int) := by omega
          have g1 : (mg : Int) < 16 := by omega
          go_wp2_with (go_at_call 58; refine (hmix'.out _).mono ?_; rintro e w2 ⟨rfl, rfl⟩)
          go_quiet (fail)
          have hct2 : (wr.drewN nq).cell? ⟨2, k / 16 * 4 + k % 4, none⟩ = some (.int .i64 tn) := by simpa using hct
          have hF4 : Fr [] w1 (wr.drewN nq) := hF3.drewN' nq
          generalize wr.drewN nq = wq at *
          clear hca hct hcw hF3
          go_wp2_with (go_at_call 59; (with_reducible refine (hrot'.out _).mono ?_); rintro e w2 ⟨rfl, rfl⟩)
          go_roundg (64 - (k + 1))
          case measure => have := hG3.out; omega
          case rel =>
            refine ⟨k + 1, rfl, by omega, ?_, ?_, ?_, ?_, by go_num, hF4⟩
            · rw [hnx.out, hS.out]
            · rw [hnx.out, hS.out]
              refine congrArg (Value.int .u32) ?_
              show ((b : Int) + (Md.rot F tn : Nat)) % 4294967296 = (((b + Md.rot F tn) % 4294967296 : Nat) : Int)
              omega
            · rw [hnx.out, hS.out]
            · rw [hnx.out, hS.out]
        · obtain rfl : k = 64 := by omega
          have hlk' : ¬ ((64 : Nat) : Int) < 64 := by omega
          have hh3 : HashB wr hb st rest n := hF3.blk hh2.blk (by simp)
          have hFz : Fr [wb] w0 wr := hFw.same (hF3.mono (by simp))
          obtain ⟨o1, o2, o3, o4⟩ := Md.steps_ok (Md.word l o) hok 64
          obtain ⟨q1, q2, q3, q4⟩ := hok
          have hfin : Hid (Md.block (Md.word l o) st = ⟨(st.a + (Md.steps (Md.word l o) st 64).a) % 4294967296, (st.b + (Md.steps (Md.word l o) st 64).b) % 4294967296, (st.c + (Md.steps (Md.word l o) st 64).c) % 4294967296, (st.d + (Md.steps (Md.word l o) st 64).d) % 4294967296⟩) := rfl
          generalize (Md.steps (Md.word l o) st 64).a = ra at *
          generalize (Md.steps (Md.word l o) st 64).b = rb at *
          generalize (Md.steps (Md.word l o) st 64).c = rc at *
          generalize (Md.steps (Md.word l o) st 64).d = rd at *
          have hb3 := hh3.blk
          have hc3 := hb3.cell
          have hz3 := hb3.frozen
          clear hW2 hh2 hg2 hg0 hF3 hFw hs0'
          go_wp2_with fail
          refine wp_tail 10 (by kernel_rfl) (by kernel_rfl) ?_
          simp only [List.take_succ_cons, List.take_zero, List.drop_succ_cons, List.drop_zero]
          repeat still_step
          refine wpStill_nil ?_
          go_wp2_with fail
          have hx0 : Blk ((wr.setCell ⟨hb, 0, none⟩ (.int .u32 (((st.a : Int) + (ra : Int)) % 4294967296))).drew) hb #[.int .u32 (((st.a : Int) + (ra : Int)) % 4294967296), .int .u32 st.b, .int .u32 st.c, .int .u32 st.d, rest, n] 117 := (hb3.set 0 _).drewN 1
          have hy0 : Fr [hb] wr ((wr.setCell ⟨hb, 0, none⟩ (.int .u32 (((st.a : Int) + (ra : Int)) % 4294967296))).drew) := ((Fr.refl [hb] wr).set' _ (List.mem_singleton.2 rfl)).drew'
          generalize (wr.setCell ⟨hb, 0, none⟩ (.int .u32 (((st.a : Int) + (ra : Int)) % 4294967296))).drew = wx0 at *
          have hc4 := hx0.cell
          have hz4 := hx0.frozen
          clear hc3 hz3
          refine wp_tail 10 (by kernel_rfl) (by kernel_rfl) ?_
          simp only [List.take_succ_cons, List.take_zero, List.drop_succ_cons, List.drop_zero]
          repeat still_step
          refine wpStill_nil ?_
          go_wp2_with fail
          have hx1 : Blk ((wx0.setCell ⟨hb, 1, none⟩ (.int .u32 (((st.b : Int) + (rb : Int)) % 4294967296))).drew) hb #[.int .u32 (((st.a : Int) + (ra : Int)) % 4294967296), .int .u32 (((st.b : Int) + (rb : Int)) % 4294967296), .int .u32 st.c, .int .u32 st.d, rest, n] 117 := (hx0.set 1 _).drewN 1
          have hy1 : Fr [hb] wr ((wx0.setCell ⟨hb, 1, none⟩ (.int .u32 (((st.b : Int) + (rb : Int)) % 4294967296))).drew) := (hy0.set' _ (List.mem_singleton.2 rfl)).drew'
          generalize (wx0.setCell ⟨hb, 1, none⟩ (.int .u32 (((st.b : Int) + (rb : Int)) % 4294967296))).drew = wx1 at *
          have hc5 := hx1.cell
          have hz5 := hx1.frozen
          clear hc4 hz4
          refine wp_tail 10 (by kernel_rfl) (by kernel_rfl) ?_
          simp only [List.take_succ_cons, List.take_zero, List.drop_succ_cons, List.drop_zero]
          repeat still_step
          refine wpStill_nil ?_
          go_wp2_with fail
          have hx2 : Blk ((wx1.setCell ⟨hb, 2, none⟩ (.int .u32 (((st.c : Int) + (rc : Int)) % 4294967296))).drew) hb #[.int .u32 (((st.a : Int) + (ra : Int)) % 4294967296), .int .u32 (((st.b : Int) + (rb : Int)) % 4294967296), .int .u32 (((st.c : Int) + (rc : Int)) % 4294967296), .int .u32 st.d, rest, n] 117 := (hx1.set 2 _).drewN 1
          have hy2 : Fr [hb] wr ((wx1.setCell ⟨hb, 2, none⟩ (.int .u32 (((st.c : Int) + (rc : Int)) % 4294967296))).drew) := (hy1.set' _ (List.mem_singleton.2 rfl)).drew'
          generalize (wx1.setCell ⟨hb, 2, none⟩ (.int .u32 (((st.c : Int) + (rc : Int)) % 4294967296))).drew = wx2 at *
          have hc6 := hx2.cell
          have hz6 := hx2.frozen
          clear hc5 hz5
          refine wp_tail 10 (by kernel_rfl) (by kernel_rfl) ?_
          simp only [List.take_succ_cons, List.take_zero, List.drop_succ_cons, List.drop_zero]
          repeat still_step
          refine wpStill_nil ?_
          go_wp2_with fail
          have hx3 : Blk ((wx2.setCell ⟨hb, 3, none⟩ (.int .u32 (((st.d : Int) + (rd : Int)) % 4294967296))).drew) hb #[.int .u32 (((st.a : Int) + (ra : Int)) % 4294967296), .int .u32 (((st.b : Int) + (rb : Int)) % 4294967296), .int .u32 (((st.c : Int) + (rc : Int)) % 4294967296), .int .u32 (((st.d : Int) + (rd : Int)) % 4294967296), rest, n] 117 := (hx2.set 3 _).drewN 1
          have hy3 : Fr [hb] wr ((wx2.setCell ⟨hb, 3, none⟩ (.int .u32 (((st.d : Int) + (rd : Int)) % 4294967296))).drew) := (hy2.set' _ (List.mem_singleton.2 rfl)).drew'
          go_end0
          have e : ∀ x y : Nat, ((x : Int) + (y : Int)) % 4294967296 = (((x + y) % 4294967296 : Nat) : Int) := fun x y => by omega
          refine ⟨rfl, ?_, ?_⟩
          · rw [hfin.out]
            unfold HashB
            simp only [e] at hx3 ⊢
            exact hx3
          · have hFr : Fr [] w wr := hF1.trans hFz (fun x hx => .inr (by rw [List.mem_singleton] at hx; rw [hx, hwb'.out]; exact Nat.le_refl _))
            exact (hFr.mono (by simp)).same hy3
end Go.Proofs.YthigfpaajbejdaaDoor
