/-
  feed.Peek, There, Taken, Take.
-/
import Derived.Test.YthigfpaajbejdaaGreatDoorWant
import Derived.Test.YthigfpaajbejdaaGreatDoorOwnApp
import Derived.Deep.Onto
namespace Go.Proofs.YthigfpaajbejdaaGreatDoor
open Go.RowKit

/-- A text's byte. -/
def Cfg.byte (c : Cfg) (i : Nat) : Nat := (c.text.data.getD i 0).toNat

theorem there_any {B : Nat} {w : World} {fb bs : Nat} {c : Cfg} {tk ft left k err emp : Nat} {v : Value} {xs : List Value} (h : FeedV B w fb bs c tk ft left k err emp v xs) :
    Calls Tryz.prog 261 #[.pointer (some ⟨fb, 0, none⟩)] w fun e w' => e = .returned (.int .i64 (ft - tk : Nat)) ∧ w = w' := by
  have hc := h.blk.cell
  have hsz := h.size
  go_enter Tryz.func261, Tryz.ntmps261
  go_wp2
  go_ret
  exact ⟨rfl, rfl⟩
theorem taken_any {B : Nat} {w : World} {fb bs : Nat} {c : Cfg} {tk ft left k err emp : Nat} {v : Value} {xs : List Value} (h : FeedV B w fb bs c tk ft left k err emp v xs) :
    Calls Tryz.prog 248 #[.pointer (some ⟨fb, 0, none⟩)] w fun e w' => e = .returned (.int .i64 tk) ∧ w = w' := by
  have hc := h.blk.cell
  go_enter Tryz.func248, Tryz.ntmps248
  go_wp2
  go_ret
  exact ⟨rfl, rfl⟩
theorem piece_at (s : ByteArray) (a b i : Nat) (hi : a + i < b) (hb : b ≤ s.size) (h : i < (s.extract a b).size := by rw [ByteArray.size_extract]; omega) : (s.extract a b)[i].toNat = (s.data.getD (a + i) 0).toNat := by
  have hlt : a + i < s.data.size := (by omega : a + i < s.size)
  have e : (s.extract a b)[i] = s.data[a + i] := by
    show (s.extract a b).data[i] = _
    simp [ByteArray.data_extract]
  rw [e]
  unfold Array.getD
  rw [dif_pos hlt]; rfl
theorem peek_any {B : Nat} {w : World} {fb bs : Nat} {c : Cfg} {tk ft left k err emp : Nat} {v : Value} {xs : List Value} (h : FeedV B w fb bs c tk ft left k err emp v xs) (i : Nat) (hi : tk + i < ft) :
    Calls Tryz.prog 251 #[.pointer (some ⟨fb, 0, none⟩), .int .i64 i] w fun e w' => e = .returned (.int .u8 (c.byte (tk + i))) ∧ w = w' := by
  have hc := h.blk.cell
  have hsz := h.size
  have h1 : (0 : Int) ≤ i := by omega
  have h2 : (i : Int) < ((ft - tk : Nat) : Int) := by omega
  go_enter Tryz.func251, Tryz.ntmps251
  go_wp2
  go_ret
  refine ⟨?_, rfl⟩
  refine congrArg (fun z : Nat => Ending.returned (.int .u8 (z : Int))) ?_
  exact piece_at c.text tk ft i hi h.ft_le.1 (by omega)

theorem own_slice {w : World} {B n : Nat} {v : Value} {xs : List Value} (h : w.ownsRow B 5 1 v n xs) : ∃ a l c, v = .slice a l c := by
  rcases h.2 with ⟨rfl, _⟩ | ⟨g, cap, cur, rfl, _⟩
  · exact ⟨_, _, _, rfl⟩
  · exact ⟨_, _, _, rfl⟩
theorem u8info : (Tryz.prog.info? 5).map (fun i => (i.zero, i.size, i.bytes)) = some (some (.int .u8 0), 1, 1) := by kernel_rfl
theorem extract_front (s : ByteArray) (a b n : Nat) (h : a + n ≤ b) : (s.extract a b).extract 0 n = s.extract a (a + n) := by
  apply ByteArray.ext
  rw [ByteArray.data_extract, ByteArray.data_extract, ByteArray.data_extract, Array.extract_extract]
  congr 1; omega
theorem extract_back (s : ByteArray) (a b n : Nat) (h : a + n ≤ b) : (s.extract a b).extract n (b - a) = s.extract (a + n) b := by
  apply ByteArray.ext
  rw [ByteArray.data_extract, ByteArray.data_extract, ByteArray.data_extract, Array.extract_extract]
  congr 1; omega

set_option maxRecDepth 100000 in
set_option maxHeartbeats 4000000 in
theorem take_any {B : Nat} {w : World} {fb bs : Nat} {c : Cfg} {tk ft left k err : Nat} {v : Value} {xs : List Value} (h : FeedV B w fb bs c tk ft left k err 0 v xs) (n : Nat) (hn : tk + n ≤ ft) (hB : B ≤ w.heap.size) :
    Calls Tryz.prog 252 #[.pointer (some ⟨fb, 0, none⟩), .int .i64 n] w fun e w' => e = .returned (.string (c.text.extract tk (tk + n))) ∧ Fr (fb :: v.ownBlock.toList) w w' ∧
      ∃ v' xs', FeedV B w' fb bs c (tk + n) ft left k err 0 v' xs' ∧ (∀ g, v'.ownBlock = some g → v.ownBlock = some g ∨ w.heap.size ≤ g) := by
  have hc := h.blk.cell
  have hz := h.blk.frozen
  have hsz := h.size
  have h1 : (0 : Int) ≤ n := by omega
  have h2 : (n : Int) ≤ ((ft - tk : Nat) : Int) := by omega
  go_enter Tryz.func252, Tryz.ntmps252
  obtain ⟨i0, hi, hz0, hz1, hz2⟩ := info_parts u8info
  have hle := h.ft_le
  have hbl := h.blk.set 1 (.string ((c.text.extract tk ft).extract n (ft - tk)))
  have hF1 : Fr [fb] w (w.setCell ⟨fb, 1, none⟩ (.string ((c.text.extract tk ft).extract n (ft - tk)))) := Fr.set _ (by simp)
  have hown := own_keep h.own hF1 (fun g hg => by have := own_ne h.own h.blk (by decide); rw [hg] at this; simpa using this)
  have hs : ((c.text.extract tk ft).extract 0 n).size = n := by rw [extract_front _ _ _ _ hn, extract_len _ _ _ (by unfold Cfg.len at hle; omega)]
  have hnb : fb ∉ v.ownBlock.toList := by
    intro hm
    have := own_ne h.own h.blk (by decide)
    simp at hm; exact this hm
  have hfew := h.few
  have hm2 : xs.length + ((c.text.extract tk ft).extract 0 n).size ≤ 140737488355328 := by rw [hs]; omega
  go_wp2_with (at_builtin; refine wpList_append_own' _ rfl (.tmp 25) (.tmp 26) 76 9 rfl B 5 i0 Tryz.underlying76 Tryz.underlying9 hi hz0 hz1 hz2 v xs.length xs rfl hown _ rfl hm2 (by simpa using hB) ?next; intro v2 w2 ho2 hg2 hnew; obtain ⟨a2, l2, p2, rfl⟩ := own_slice ho2; have hF2 := Fr.grown (S := v.ownBlock.toList) hg2 (fun k hk => by rw [hk]; simp); have hb2 := hF2.blk hbl hnb; have hc2 := hb2.cell; have hz2' := hb2.frozen)
  go_ret
  have hO : ∀ g ∈ v.ownBlock.toList, B ≤ g := fun g hg => by
    have hg' : v.ownBlock = some g := by simpa using hg
    rcases h.own.2 with ⟨rfl, _⟩ | ⟨g0, cap, cur, rfl, hb, _⟩
    · cases hg'
    · have : g0 = g := Option.some.inj hg'
      exact this ▸ hb
  have hin : ∀ k ∈ [fb], k ∈ fb :: v.ownBlock.toList ∨ w.heap.size ≤ k := fun k hk => .inl (by rw [List.mem_singleton] at hk; subst hk; exact List.mem_cons_self ..)
  have hFw : Fr (fb :: v.ownBlock.toList) w w2 := (hF1.mono hin).trans hF2 (fun k hk => .inl (List.mem_cons_of_mem _ hk))
  have hFe := hFw.trans (fr2 fb w2 3 4 (.slice a2 l2 p2) (.int .i64 ((tk + n : Nat) : Int))) hin
  obtain ⟨sa, cap, hbs, _⟩ := h.src.row
  have hbsO : bs ∉ fb :: v.ownBlock.toList := by
    rw [List.mem_cons]
    rintro (e | e)
    · exact hbs.ne h.blk (by decide) e
    · exact own_ne h.own hbs (by decide) (by simpa using e)
  have ho3 : w2.ownsRow B 5 1 (.slice a2 l2 p2) (xs ++ Lib.strCells ((c.text.extract tk ft).extract 0 n)).length (xs ++ Lib.strCells ((c.text.extract tk ft).extract 0 n)) := by rw [List.length_append, Lib.strCells_length]; exact ho2
  refine ⟨congrArg (fun z => Ending.returned (.string z)) (extract_front _ _ _ _ hn), hFe, .slice a2 l2 p2, _, ⟨?_, h.src.keep hFe hbsO ?_, own_keep ho3 (fr2 fb w2 _ _ _ _) ?_, h.above, hn, h.goes, h.errok, by rw [List.length_append, Lib.strCells_length, hs]; omega⟩, fun g hg => (hnew g hg).imp_right (fun hh => by simpa using hh)⟩
  · have := (hb2.set 3 (.slice a2 l2 p2)).set 4 (.int .i64 ((tk + n : Nat) : Int))
    rw [extract_back _ _ _ _ hn] at this
    exact this
  · intro x hx
    rcases List.mem_cons.1 hx with rfl | hx
    · exact h.above
    · exact hO x hx
  · intro g hg
    have := own_ne ho2 hb2 (by decide)
    rw [hg] at this
    simpa using this
end Go.Proofs.YthigfpaajbejdaaGreatDoor
