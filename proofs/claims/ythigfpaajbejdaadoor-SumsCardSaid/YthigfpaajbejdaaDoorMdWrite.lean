/-
  check.Hash.Write, walked.
-/
import Derived.Test.YthigfpaajbejdaaDoorMdBlock
import Derived.Test.YthigfpaajbejdaaDoorWin
namespace Go.Proofs.YthigfpaajbejdaaDoor
open Go.RowKit

/-- Bytes of a text, as cells. -/
def seg (l : Nat → Nat) (o k : Nat) : List Value := (List.range k).map (fun i => .int .u8 (l (o + i)))
theorem seg_length (l : Nat → Nat) (o k : Nat) : (seg l o k).length = k := by simp [seg]
theorem seg_get (l : Nat → Nat) (o k i : Nat) (h : i < k) : (seg l o k)[i]? = some (.int .u8 (l (o + i))) := by
  unfold seg; rw [List.getElem?_map, List.getElem?_range h]; rfl
theorem seg_ext {l : Nat → Nat} {o k : Nat} {xs : List Value} (h1 : xs.length = k) (h2 : ∀ i, i < k → xs[i]? = some (.int .u8 (l (o + i)))) : xs = seg l o k := by
  apply List.ext_getElem?
  intro i
  rcases Nat.lt_or_ge i k with h | h
  · rw [h2 i h, seg_get l o k i h]
  · rw [List.getElem?_eq_none (by omega), List.getElem?_eq_none (by rw [seg_length]; exact h)]
theorem seg_append (l : Nat → Nat) (o a b : Nat) : seg l o a ++ seg l (o + a) b = seg l o (a + b) := by
  apply seg_ext
  · rw [List.length_append, seg_length, seg_length]
  · intro i hi
    rcases Nat.lt_or_ge i a with h | h
    · rw [List.getElem?_append_left (by rw [seg_length]; exact h), seg_get l o a i h]
    · rw [List.getElem?_append_right (by rw [seg_length]; exact h), seg_length, seg_get l (o + a) b (i - a) (by omega), show o + a + (i - a) = o + i by omega]
theorem seg_drop (l : Nat → Nat) (o k m : Nat) (h : m ≤ k) : (seg l o k).drop m = seg l (o + m) (k - m) := by
  apply seg_ext
  · rw [List.length_drop, seg_length]
  · intro i hi
    rw [List.getElem?_drop, seg_get l o k (m + i) (by omega), show o + (m + i) = o + m + i by omega]
/-- A window of at least m cells, m of them cut off. -/
theorem WinP.cut {B : Nat} {w : World} {g off n cap m : Nat} {xs : List Value} (h : WinP B w (.slice (some ⟨g, off, none⟩) n cap) xs) (hm : m ≤ n) : WinP B w (.slice (some ⟨g, off + m, none⟩) (n - m) (cap - m)) (xs.drop m) := by
  rcases h with ⟨h, _⟩ | ⟨g', off', cap', cur, h, hb, hg, h1, h2, h3, ht⟩
  · cases h
  · cases h
    refine .inr ⟨g, off + m, cap - m, cur, by rw [List.length_drop], hb, hg, by rw [List.length_drop]; omega, by omega, by omega, ?_⟩
    rw [← List.drop_drop, List.length_drop, ← List.drop_take, ht]
theorem WinP.cut_all {B : Nat} {w : World} {g off n : Nat} {xs : List Value} (h : WinP B w (.slice (some ⟨g, off, none⟩) n n) xs) : WinP B w (.slice (some ⟨g, off, none⟩) 0 0) [] := by
  rcases h with ⟨h, _⟩ | ⟨g', off', cap', cur, h, hb, hg, h1, h2, h3, ht⟩
  · cases h
  · cases h
    exact .inr ⟨g, off, 0, cur, rfl, hb, hg, Nat.le_refl _, Nat.zero_le _, by omega, rfl⟩
theorem WinP.form {B : Nat} {w : World} {v : Value} {xs : List Value} (h : WinP B w v xs) : ∃ a cap, v = .slice a xs.length cap ∧ xs.length ≤ cap ∧ (0 < xs.length → ∃ g off, a = some ⟨g, off, none⟩) ∧ cap ≤ maxLen := by
  rcases h with ⟨rfl, rfl⟩ | ⟨g, off, cap, cur, rfl, _, _, h1, h2, _⟩
  · exact ⟨none, 0, rfl, Nat.le_refl _, fun h => absurd h (by simp), Nat.zero_le _⟩
  · exact ⟨_, cap, rfl, h1, fun _ => ⟨g, off, rfl⟩, h2⟩
theorem WinP.forms {B : Nat} {w : World} {v : Value} {l : Nat → Nat} {o k : Nat} (h : WinP B w v (seg l o k)) : ∃ a cap, v = .slice a k cap ∧ k ≤ cap ∧ (0 < k → ∃ g off, a = some ⟨g, off, none⟩) ∧ cap ≤ maxLen := by
  have := h.form
  rw [seg_length] at this; exact this
theorem WinP.ne {B : Nat} {w : World} {v : Value} {xs : List Value} (h : WinP B w v xs) {b : Nat} {c : Array Value} {t : TypeId} (hb : Blk w b c t) (ht : t ≠ 5) : v.ownBlock ≠ some b := by
  rcases h with ⟨rfl, _⟩ | ⟨g, off, cap, cur, rfl, _, hg, _⟩
  · intro e; cases e
  · intro e
    have e' : g = b := Option.some.inj e
    subst e'
    have e2 := Option.some.inj (hb.out.symm.trans hg)
    injection e2 with _ h2 _
    exact ht h2

theorem u8info' : (Tryd.prog.info? 5).map (fun i => (i.zero, i.size, i.bytes)) = some (some (.int .u8 0), 1, 1) := by kernel_rfl
/-- A sum in block hb that has taken n bytes of the text l. -/
structure HashV (B : Nat) (w : World) (hb : Nat) (l : Nat → Nat) (n : Nat) (v : Value) : Prop where
  hash : HashB w hb (Md.runs l Md.start (n / 64)) v (.int .u64 n)
  win : WinP B w v (seg l (64 * (n / 64)) (n - 64 * (n / 64)))
  above : B ≤ hb
  small : n ≤ 1048576

set_option maxRecDepth 100000 in
set_option maxHeartbeats 2000000 in
theorem write_any {B : Nat} {w : World} {hb : Nat} {l : Nat → Nat} {n : Nat} {v : Value} (hl : ∀ i, l i < 256) (h : HashV B w hb l n v) (hg : MdGl w) (hB : B ≤ w.heap.size) (hGB : 1 < B ∧ 2 < B)
    (s : ByteArray) (hs : Lib.strCells s = seg l n s.size) (hn : n + s.size ≤ 1048576) :
    Calls Tryd.prog 28 #[.pointer (some ⟨hb, 0, none⟩), .string s] w fun e w' => e = .returned (.tuple #[]) ∧ Fr (hb :: v.ownBlock.toList) w w' ∧ ∃ v', HashV B w' hb l (n + s.size) v' ∧ (∀ g, v'.ownBlock = some g → v.ownBlock = some g ∨ w.heap.size ≤ g) := by
  obtain ⟨i0, hi, hz0, hz1, hz2⟩ := info_parts u8info'
  have hblk := h.hash.blk
  have hc := hblk.cell
  have hz := hblk.frozen
  have hsm := h.small
  have hF1 : Fr [hb] w (w.setCell ⟨hb, 5, none⟩ (.int .u64 ((n : Int) + (s.size : Int)))) := Fr.set _ (by simp)
  have hb1 := hblk.set 5 (.int .u64 ((n : Int) + (s.size : Int)))
  have hw1 := h.win.keep hF1 (fun g hg he => h.win.ne hblk (by decide) (by rw [List.mem_singleton] at he; rw [hg, he]))
  have hlx : (seg l (64 * (n / 64)) (n - 64 * (n / 64))).length + s.size ≤ 140737488355328 := by rw [seg_length]; omega
  have hsz1 : B ≤ (w.setCell ⟨hb, 5, none⟩ (.int .u64 ((n : Int) + (s.size : Int)))).heap.size := by simpa using hB
  have hjoin : Hid (seg l (64 * (n / 64)) (n - 64 * (n / 64)) ++ Lib.strCells s = seg l (64 * (n / 64)) (n + s.size - 64 * (n / 64))) := by
    unfold Hid
    rw [hs, show seg l n s.size = seg l (64 * (n / 64) + (n - 64 * (n / 64))) s.size by rw [show 64 * (n / 64) + (n - 64 * (n / 64)) = n by omega], seg_append]
    congr 1; omega
  have hh0 := Hid.mk' h
  have hgB := Hid.mk' hg
  go_enter Tryd.func28, Tryd.ntmps28
  go_wp2_with (at_builtin; refine wpList_append_win _ rfl (.tmp 18) (.tmp 19) 48 9 rfl B i0 Tryd.underlying48 Tryd.underlying9 hi hz0 hz1 hz2 v _ rfl hw1 s rfl hlx hsz1 ?next; rw [hjoin.out]; intro v2 w2 hwin2 hf2 hnew2; have hb2 := hf2.blk hb1 (by simpa using h.win.ne hblk (by decide)); obtain ⟨a2, p2, rfl, hcap2, hadr2, hcm2⟩ := hwin2.forms; have hc2 := hb2.cell; have hz2' := hb2.frozen)
  obtain ⟨N, hN⟩ : ∃ N, N = n + s.size := ⟨_, rfl⟩
  have hF3 : Fr (hb :: v.ownBlock.toList) w (w2.setCell ⟨hb, 4, none⟩ (.slice a2 (n + s.size - 64 * (n / 64)) p2)) :=
    ((hF1.mono (fun k hk => .inl (by rw [List.mem_singleton] at hk; subst hk; exact List.mem_cons_self ..))).same (hf2.mono (fun k hk => .inl (List.mem_cons_of_mem _ hk)))).set' _ (List.mem_cons_self ..)
  have hw3 : WinP B (w2.setCell ⟨hb, 4, none⟩ (.slice a2 (n + s.size - 64 * (n / 64)) p2)) (.slice a2 (n + s.size - 64 * (n / 64)) p2) (seg l (64 * (n / 64)) (n + s.size - 64 * (n / 64))) :=
    hwin2.keep (S := [hb]) (Fr.set _ (by simp)) (fun g hg he => hwin2.ne hb2 (by decide) (by rw [List.mem_singleton] at he; rw [hg, he]))
  have hb3 : HashB (w2.setCell ⟨hb, 4, none⟩ (.slice a2 (n + s.size - 64 * (n / 64)) p2)) hb (Md.runs l Md.start (n / 64)) (.slice a2 (n + s.size - 64 * (n / 64)) p2) (.int .u64 ((n : Int) + (s.size : Int))) := hb2.set 4 _
  have hown : ∀ g, (Value.slice a2 (n + s.size - 64 * (n / 64)) p2).ownBlock = some g → v.ownBlock = some g ∨ w.heap.size ≤ g := fun g hg => (hnew2 g hg).imp_right (fun h => by simpa using h)
  generalize w2.setCell ⟨hb, 4, none⟩ (.slice a2 (n + s.size - 64 * (n / 64)) p2) = w3 at *
  have hgl : ∀ wx, Fr [hb] w3 wx → MdGl wx := fun wx hf => by
    have hF := hF3.same (hf.mono (T := hb :: v.ownBlock.toList) (fun k hk => .inl (by rw [List.mem_singleton] at hk; subst hk; exact List.mem_cons_self ..)))
    have hS : ∀ x ∈ hb :: v.ownBlock.toList, B ≤ x := fun x hx => by
      rcases List.mem_cons.1 hx with rfl | hx
      · exact hh0.out.above
      · exact (hh0.out.win.lt x (by simpa using hx)).1
    exact hgB.out.keep hF (fun hx => by have := hS _ hx; omega) (fun hx => by have := hS _ hx; omega)
  have hgl' := Hid.mk' hgl
  have hNn : Hid (N = n + s.size ∧ n ≤ N ∧ N ≤ 1048576) := ⟨hN, by omega, by omega⟩
  have hw3' : WinP B w3 (.slice a2 (n + s.size - 64 * (n / 64)) p2) (seg l (64 * (n / 64)) (N - 64 * (n / 64))) := by rw [hN]; exact hw3
  clear hc hz hc2 hz2' hb1 hb2 hw1 hwin2 hF1 hf2 hnew2 hgl hw3 hlx hsz1 hN hblk h hg
  go_loopg [] ((N - 64 * (n / 64)) / 64) (fun g wx => ∃ (m : Nat) (v' : Value), g = (N - 64 * m) / 64 ∧ 64 * m ≤ N ∧ HashB wx hb (Md.runs l Md.start m) v' (.int .u64 ((n : Int) + (s.size : Int))) ∧ WinP B wx v' (seg l (64 * m) (N - 64 * m)) ∧ Hid (∀ g, v'.ownBlock = some g → v.ownBlock = some g ∨ w.heap.size ≤ g) ∧ Fr [hb] w3 wx)
  case atStart => exact ⟨n / 64, _, rfl, by have := hNn.out; omega, hb3, hw3', hown, Fr.refl _ _⟩
  case round =>
    obtain ⟨m, v3, hg3, hm, hb4, hw4, how4, hF4⟩ := hrel
    have hG := Hid.mk' hg3
    clear hg3 hb3 hw3' hown
    obtain ⟨a3, p3, rfl, hcap3, hadr3, hcm3⟩ := hw4.forms
    have hc := hb4.blk.cell
    have hz := hb4.blk.frozen
    have hsm := hNn.out.2.2
    have hcmx : Hid (p3 ≤ maxLen) := hcm3
    clear hcm3
    by_cases h64 : 64 ≤ N - 64 * m
    · have h64' : (64 : Int) ≤ ((N - 64 * m : Nat) : Int) := by omega
      obtain ⟨g3, off3, rfl⟩ := hadr3 (by omega)
      have hp64 : (64 : Int) ≤ (p3 : Int) := by omega
      have hcells : Hid (∀ i, i < 64 → wr.cell? ⟨g3, off3 + i, none⟩ = some (.int .u8 (l (64 * m + i)))) := fun i hi => hw4.cell i _ (seg_get l (64 * m) (N - 64 * m) i (by omega))
      have hbc := Hid.mk' (block_any (cap := p3) (Md.runs_ok l Md.start_ok m) hl hb4 (hgl'.out _ hF4) hcells.out)
      have hw4' := Hid.mk' hw4
      clear hw4
      by_cases hp : p3 = 64
      · subst hp
        have hN64 : N - 64 * m = 64 := by omega
        go_wp2_with (go_at_call 45; refine hbc.out.mono ?_; rintro e w5 ⟨rfl, hh5, hf5⟩; have hc5 := hh5.blk.cell; have hz5 := hh5.blk.frozen)
        go_roundg ((N - 64 * (m + 1)) / 64)
        case measure => have := hG.out; omega
        case rel =>
          have hne : g3 ≠ hb := fun e => hw4'.out.ne hb4.blk (by decide) (by rw [← e]; rfl)
          refine ⟨m + 1, .slice (some ⟨g3, off3, none⟩) 0 0, rfl, by omega, hh5.blk.set 4 _, ?_, fun g hg => how4.out g hg, (hF4.same hf5).set' _ (by simp)⟩
          rw [show N - 64 * (m + 1) = 0 by omega]
          have h4 := hw4'.out
          rw [hN64] at h4
          exact (h4.cut_all.keep hf5 (fun g hg he => hne (by rw [List.mem_singleton] at he; rw [← he]; exact Option.some.inj hg))).keep (S := [hb]) (Fr.set _ (by simp)) (fun g hg he => hne (by rw [List.mem_singleton] at he; rw [← he]; exact Option.some.inj hg))
      · have hpp : (64 : Int) < (p3 : Int) := by omega
        go_wp2_with (go_at_call 45; refine hbc.out.mono ?_; rintro e w5 ⟨rfl, hh5, hf5⟩; have hc5 := hh5.blk.cell; have hz5 := hh5.blk.frozen)
        go_roundg ((N - 64 * (m + 1)) / 64)
        case measure => have := hG.out; omega
        case rel =>
          have hne : g3 ≠ hb := fun e => hw4'.out.ne hb4.blk (by decide) (by rw [← e]; rfl)
          refine ⟨m + 1, .slice (some ⟨g3, off3 + 64, none⟩) (N - 64 * m - 64) (p3 - 64), rfl, by omega, hh5.blk.set 4 _, ?_, fun g hg => how4.out g hg, (hF4.same hf5).set' _ (by simp)⟩
          have h4 := hw4'.out.cut h64
          rw [seg_drop _ _ _ _ h64, show 64 * m + 64 = 64 * (m + 1) by omega, show N - 64 * m - 64 = N - 64 * (m + 1) by omega] at h4
          rw [show N - 64 * m - 64 = N - 64 * (m + 1) by omega]
          exact (h4.keep hf5 (fun g hg he => hne (by rw [List.mem_singleton] at he; rw [← he]; exact Option.some.inj hg))).keep (S := [hb]) (Fr.set _ (by simp)) (fun g hg he => hne (by rw [List.mem_singleton] at he; rw [← he]; exact Option.some.inj hg))
    · have h64' : ¬ (64 : Int) ≤ ((N - 64 * m : Nat) : Int) := by omega
      go_wp2_with fail
      go_end0
      obtain ⟨e1, e2, e3⟩ := hNn.out
      have hm64 : m = N / 64 := by omega
      refine ⟨rfl, hF3.same (hF4.mono (fun k hk => .inl (by rw [List.mem_singleton] at hk; subst hk; exact List.mem_cons_self ..))), _, ⟨?_, ?_, hh0.out.above, by omega⟩, how4.out⟩
      · rw [← e1, ← hm64]
        have : ((n : Int) + (s.size : Int)) = ((N : Nat) : Int) := by rw [e1]; omega
        rw [this] at hb4
        exact hb4
      · rw [← e1, ← hm64]; exact hw4
end Go.Proofs.YthigfpaajbejdaaDoor
