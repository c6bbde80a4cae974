/-
  flacpairref.MD5, walked.
-/
import Derived.Test.YthigfpaajbejdaaDoorRefChunk
import Derived.Test.YthigfpaajbejdaaDoorMdWrite
import Derived.Test.YthigfpaajbejdaaDoorOwnB
import Derived.Lib.ConvBytes
import Derived.Laws.BytesString
import Derived.Laws.IdiomStrings
namespace Go.Proofs.YthigfpaajbejdaaDoor
open Go.RowKit

/-- A text's bytes, as numbers. -/
def bl (s : ByteArray) (i : Nat) : Nat := (s.data.toList.getD i 0).toNat
theorem bl_lt (s : ByteArray) (i : Nat) : bl s i < 256 := UInt8.toNat_lt _
theorem own_bytes {B : Nat} {w : World} (hB : B ≤ w.heap.size) (s : ByteArray) (hs : s.size ≤ 1048576) :
    OwnB B (Lib.bytesWorld w 5 s) (.slice (some ⟨w.heap.size, 0, none⟩) s.size (grownCap w s.size 0 5)) (seg (bl s) 0 s.size) := by
  have hge := grownCap_ge w s.size 0 5
  have hcm := grownCap_le_maxLen w s.size 0 5 (by unfold maxLen; omega)
  have hsz : (Lib.bytesCells w 5 s).size = grownCap w s.size 0 5 := by
    unfold Lib.bytesCells
    rw [Array.size_append, Array.size_map, Array.size_replicate]
    show s.size + _ = _
    omega
  have hcell : ∀ i, (Lib.bytesWorld w 5 s).cell? ⟨w.heap.size, i, none⟩ = (Lib.bytesCells w 5 s)[i]? := fun i => by
    simp [World.cell?, Lib.bytesWorld_at_new]
  refine .inr ⟨w.heap.size, grownCap w s.size 0 5, by rw [seg_length], hB, by rw [Lib.bytesWorld_size]; omega, by rw [seg_length]; exact hge, hcm, fun i x hi => ?_, fun i hi hc => ⟨?_, ?_⟩⟩
  · have hlt : i < s.size := by have := (List.getElem?_eq_some_iff.1 hi).1; rwa [seg_length] at this
    rw [seg_get _ _ _ _ hlt] at hi
    rw [Lib.bytesWorld_cell w 5 s i hlt, ← hi, Nat.zero_add]
    rfl
  · rw [hcell, Array.getElem?_eq_getElem (by omega)]; rfl
  · simp [World.frozen?, Lib.bytesWorld_at_new, hsz]
    omega
theorem bytes_fr {w : World} {s : ByteArray} : Fr [] w (Lib.bytesWorld w 5 s) :=
  ⟨by simp [Lib.bytesWorld, World.freeze, World.alloc, World.drew, -World.alloc_eq, -World.drew_eq], by simp [Lib.bytesWorld, World.freeze, World.alloc, World.drew, -World.alloc_eq, -World.drew_eq], by simp [Lib.bytesWorld, World.freeze, World.alloc, World.drew, -World.alloc_eq, -World.drew_eq], by rw [Lib.bytesWorld_size]; omega, fun k hk _ => Lib.bytesWorld_at_old w _ s k hk⟩

theorem wpList_append_one {ops : Array Oper} {rest : List Oper} {o : Oper} {a : Act} {Q : Exit → Act → World → Prop} (W : World) (hgd : o.guard = none) (sl x : Operand)
    (ho : o.op = .call { callee := .builtin .append, args := #[sl, x], argTypes := #[48, 48] })
    (B : Nat) (v : Value) (xs : List Value) (hs : a.eval sl = v) (hown : OwnB B W v xs) (k : Int) (hx : a.eval x = .slice (some ⟨W.heap.size, 0, none⟩) 1 1)
    (hbytes : xs.length ≤ 1048700) (hbase : B ≤ W.heap.size)
    (h : ∀ v' w', OwnB B w' v' (xs ++ [.int .u8 k]) → Fr v.ownBlock.toList W w' → (∀ g, v'.ownBlock = some g → v.ownBlock = some g ∨ W.heap.size ≤ g) → wpList Tryd.prog ops Q rest (a.put o.dst v') w') :
    wpList Tryd.prog ops Q (o :: rest) a (W.alloc (.cells #[.int .u8 k] 5)) := by
  obtain ⟨i0, hi, hz0, hz1, hz2⟩ := info_parts u8info'
  refine wpList_append_b _ hgd sl x 48 ho B i0 Tryd.underlying48 hi hz0 hz1 hz2 v xs hs (hown.keep (S := []) (Fr.alloc [] W _) (fun _ _ h => by cases h)) ⟨W.heap.size, 0, none⟩ 1 1 [.int .u8 k] hx rfl ?_ ?_ (by omega) (Nat.le_trans hbase (by simp)) ?_
  · intro j u hj
    have hj0 : j = 0 := by have := (List.getElem?_eq_some_iff.1 hj).1; simp at this; exact this
    subst hj0
    rw [Go.WideShapes.add_plain]
    refine ((Blk.new W _ _).cell _).trans ?_
    simpa using hj
  · intro u hu
    rw [List.mem_singleton] at hu
    subst hu; rfl
  · intro v' w' h1 h2 h3
    exact h v' w' h1 ((Fr.alloc _ W _).same h2) (fun g hg => (h3 g hg).imp_right (fun h => Nat.le_trans (by simp) h))
theorem OwnB.forms {B : Nat} {w : World} {v : Value} {l : Nat → Nat} {o k : Nat} (h : OwnB B w v (seg l o k)) : ∃ a cap, v = .slice a k cap ∧ k ≤ cap ∧ (0 < k → ∃ g, a = some ⟨g, 0, none⟩) ∧ cap ≤ maxLen := by
  have := h.form
  rw [seg_length] at this; exact this
theorem seg_snoc (l : Nat → Nat) (m : Nat) (k : Int) (hk : k = (l m : Int)) : seg l 0 m ++ [.int .u8 k] = seg l 0 (m + 1) := by
  rw [← seg_append l 0 m 1, Nat.zero_add, hk]; rfl
theorem seg_congr {l l' : Nat → Nat} {k : Nat} (h : ∀ i, i < k → l i = l' i) : seg l 0 k = seg l' 0 k :=
  seg_ext (seg_length _ _ _) (fun i hi => by rw [seg_get _ _ _ _ hi, Nat.zero_add, h i hi])
theorem padded_low (l : Nat → Nat) {n i : Nat} (h : i < n) : Md.padded l n i = l i := by unfold Md.padded; rw [if_pos h]
theorem padded_one (l : Nat → Nat) (n : Nat) : Md.padded l n n = 128 := by unfold Md.padded; rw [if_neg (by omega), if_pos rfl]
theorem padded_nil (l : Nat → Nat) {n i : Nat} (h : n < i) (h2 : i < 64 * ((n + 8) / 64) + 56) : Md.padded l n i = 0 := by unfold Md.padded; rw [if_neg (by omega), if_neg (by omega), if_pos h2]
theorem padded_len (l : Nat → Nat) (n : Nat) (i : Nat) : Md.padded l n (64 * ((n + 8) / 64) + 56 + i) = 8 * n / 2 ^ (8 * i) % 256 := by
  unfold Md.padded
  rw [if_neg (by omega), if_neg (by omega), if_neg (by omega), show 64 * ((n + 8) / 64) + 56 + i - (64 * ((n + 8) / 64) + 56) = i by omega]
/-- 16 bytes in the making, k of them there. -/
def OutB (w : World) (ob : Nat) (f : Nat → Nat) (k : Nat) : Prop := ∃ cs : Array Value, Blk w ob cs 5 ∧ cs.size = 16 ∧ ∀ i, i < k → cs[i]? = some (.int .u8 (f i))
theorem OutB.made (w : World) (f : Nat → Nat) : OutB (w.alloc (.cells (madeCells #[Value.int .u8 0] 16) 5)) w.heap.size f 0 :=
  ⟨_, Blk.new w _ _, size_madeCells _ _, fun i hi => absurd hi (by omega)⟩
theorem OutB.keep {S : List Nat} {w w' : World} {ob : Nat} {f : Nat → Nat} {k : Nat} (h : OutB w ob f k) (hf : Fr S w w') (hS : ob ∉ S) : OutB w' ob f k := by
  obtain ⟨cs, hb, h1, h2⟩ := h
  exact ⟨cs, hf.blk hb hS, h1, h2⟩
theorem OutB.there {w : World} {ob : Nat} {f : Nat → Nat} {k : Nat} (h : OutB w ob f k) (i : Nat) (hi : i < 16) : ∃ v, w.cell? ⟨ob, i, none⟩ = some v ∧ w.frozen? ⟨ob, i, none⟩ = false := by
  obtain ⟨cs, hb, h1, _⟩ := h
  exact ⟨cs[i]'(by omega), by rw [hb.cell i, Array.getElem?_eq_getElem], hb.frozen i⟩
theorem OutB.set {w : World} {ob : Nat} {f : Nat → Nat} {k : Nat} (h : OutB w ob f k) (hk : k < 16) (v : Value) (hv : v = .int .u8 (f k)) : OutB (w.setCell ⟨ob, k, none⟩ v) ob f (k + 1) := by
  obtain ⟨cs, hb, h1, h2⟩ := h
  refine ⟨_, hb.set k v, by simpa using h1, fun i hi => ?_⟩
  rw [Array.getElem?_setIfInBounds]
  by_cases he : k = i
  · subst he; rw [if_pos rfl, if_pos (by omega), hv]
  · rw [if_neg he, h2 i (by omega)]
theorem out_sel {w : World} {hb : Nat} {st : Md.St} (h : ∀ i, i < 4 → w.cell? ⟨hb, i, none⟩ = (#[Value.int .i64 st.a, .int .i64 st.b, .int .i64 st.c, .int .i64 st.d] : Array Value)[i]?) (hok : st.ok) (k : Nat) (hk : k < 16) :
    ∃ x : Nat, w.cell? ⟨hb, k / 4, none⟩ = some (.int .i64 x) ∧ Md.out st k = x / 2 ^ (8 * (k % 4)) % 256 ∧ x < 4294967296 := by
  rw [h (k / 4) (by omega)]
  obtain ⟨o1, o2, o3, o4⟩ := hok
  rcases (by omega : k / 4 = 0 ∨ k / 4 = 1 ∨ k / 4 = 2 ∨ k / 4 = 3) with e | e | e | e <;> unfold Md.out <;> rw [e]
  · exact ⟨st.a, rfl, rfl, o1⟩
  · exact ⟨st.b, rfl, rfl, o2⟩
  · exact ⟨st.c, rfl, rfl, o3⟩
  · exact ⟨st.d, rfl, rfl, o4⟩
/-- 16 numbers as a text. -/
def text16 (f : Nat → Nat) : ByteArray := ⟨((List.range 16).map (fun i => UInt8.ofNat (f i))).toArray⟩
theorem txt_text16 (f : Nat → Nat) (hf : ∀ i, f i < 256) : txt (text16 f) = (List.range 16).map f := by
  unfold txt text16
  simp only [List.map_map]
  apply List.map_congr_left
  intro i _
  simp [Nat.mod_eq_of_lt (hf i)]
theorem conv16 {w : World} {ob : Nat} {f : Nat → Nat} (h : OutB w ob f 16) (hf : ∀ i, f i < 256) :
    (convert 48 9 (.slice (some ⟨ob, 0, none⟩) 16 16)).run Tryd.prog w = .ok (.string (text16 f)) w := by
  obtain ⟨cs, hb, h1, h2⟩ := h
  refine run_convert_bytes_back (P := Tryd.prog) _ 48 9 5 ⟨ob, 0, none⟩ 16 ((List.range 16).map (fun i => UInt8.ofNat (f i))) Tryd.underlying48 Tryd.underlying5 Tryd.underlying9 ?_
  intro j hj
  have hj16 : j < 16 := by simpa using hj
  rw [Go.WideShapes.add_plain]
  refine (hb.cell _).trans ?_
  simp [h2 j hj16, Nat.mod_eq_of_lt (hf j)]
theorem made16 (w : World) : (Instr.makeSlice 48 (.int .i64 16) (.int .i64 16)).run Tryd.prog w = .ok (.slice (some ⟨w.heap.size, 0, none⟩) 16 16) (w.alloc (.cells (madeCells (Value.int .u8 0).cells 16) 5)) := by
  obtain ⟨i0, hi, hz0, hz1, hz2⟩ := info_parts u8info'
  have := run_makeSlice (P := Tryd.prog) w 48 5 i0 (.int .u8 0) Tryd.underlying48 hi hz0 .i64 .i64 16 16 (by decide) (by decide) (by rw [hz1]; decide) (by rw [hz2]; decide) (by decide)
  rw [hz1] at this
  exact this
/-- One's own bytes grow: what else there was stands. -/
theorem fr_own {B : Nat} {w w1 w2 : World} {v : Value} (h : Fr [] w w1) (hB : B = w.heap.size) (hv : ∀ g, v.ownBlock = some g → B ≤ g) (h2 : Fr v.ownBlock.toList w1 w2) : Fr [] w w2 :=
  h.trans h2 (fun k hk => .inr (by rw [← hB]; exact hv k (by simpa using hk)))

set_option maxRecDepth 100000 in
set_option maxHeartbeats 1000000 in
theorem rmd5_any (s : ByteArray) (hs : s.size ≤ 1048576) (w : World) :
    Calls Tryd.prog 8 #[.string s] w fun e w' => (∃ r : ByteArray, e = .returned (.string r) ∧ txt r = Md.sum (bl s) s.size) ∧ Fr [] w w' := by
  have hconv := Lib.run_convert_string_bytes (P := Tryd.prog) w 9 48 5 s Tryd.underlying9 Tryd.underlying48 Tryd.underlying5
  have ho0 := own_bytes (B := w.heap.size) (Nat.le_refl _) s hs
  have hF0 := bytes_fr (w := w) (s := s)
  go_enter Tryd.func8, Tryd.ntmps8
  have hF0' := Hid.mk' hF0
  obtain ⟨n, hn⟩ : ∃ n, n = s.size := ⟨_, rfl⟩
  have hsg : Hid (seg (bl s) 0 s.size ++ [Value.int .u8 128] = seg (Md.padded (bl s) s.size) 0 (s.size + 1)) := by
    unfold Hid
    rw [← seg_snoc _ s.size 128 (by rw [padded_one]; rfl)]
    congr 1
    exact seg_congr (fun i hi => (padded_low _ hi).symm)
  have hb1 : (seg (bl s) 0 s.size).length ≤ 1048700 := by rw [seg_length]; omega
  have hb2 : w.heap.size ≤ (Lib.bytesWorld w 5 s).heap.size := hF0.size
  go_wp2_with (at_builtin; refine wpList_append_one (Lib.bytesWorld w 5 s) rfl (.tmp 12) (.tmp 13) rfl w.heap.size (.slice (some ⟨w.heap.size, 0, none⟩) s.size (grownCap w s.size 0 5)) _ rfl ho0 128 rfl hb1 hb2 ?next; intro v2 w2 how2 hf2 _; rw [hsg.out] at how2; obtain ⟨a2, p2, rfl, hcap2, hadr2, hcm2⟩ := how2.forms)
  have hF2 : Fr [] w w2 := fr_own hF0'.out rfl (fun g hg => (ho0.lt g hg).1) hf2
  clear ho0 hF0 hF0' hconv hb1 hb2 hf2
  go_loopg [3] (64 * ((s.size + 8) / 64) + 56 - (s.size + 1)) (fun g s3 wx => ∃ m : Nat, g = 64 * ((s.size + 8) / 64) + 56 - m ∧ s.size < m ∧ m ≤ 64 * ((s.size + 8) / 64) + 56 ∧ OwnB w.heap.size wx s3 (seg (Md.padded (bl s) s.size) 0 m) ∧ Fr [] w wx)
  case atStart => exact ⟨s.size + 1, rfl, by omega, by omega, how2, hF2⟩
  case round =>
    obtain ⟨m, hg, hm1, hm2, how, hF⟩ := hrel
    have hG := Hid.mk' hg
    clear hg
    obtain ⟨a3, p3, rfl, hcap3, hadr3, hcm3⟩ := how.forms
    have hb1 : (seg (Md.padded (bl s) s.size) 0 m).length ≤ 1048700 := by rw [seg_length]; omega
    have hb2 : w.heap.size ≤ wr.heap.size := hF.size
    have e1 : ((m : Int)).tmod 64 = (m : Int) % 64 := Int.tmod_eq_emod_of_nonneg (by omega)
    by_cases hT : m = 64 * ((s.size + 8) / 64) + 56
    · have e2 : ((m : Int) % 64 == 56) = true := by simp; omega
      clear hb1 e1
      obtain ⟨T, hTe⟩ : ∃ T, T = 64 * ((s.size + 8) / 64) + 56 := ⟨_, rfl⟩
      have hT2 : Hid (T = 64 * ((s.size + 8) / 64) + 56) := hTe
      have e1 : ((T : Int)).tmod 64 = (T : Int) % 64 := Int.tmod_eq_emod_of_nonneg (by omega)
      rw [← hTe] at hT
      subst hT
      have hTl : m ≤ 1048700 := by omega
      clear hTe hm2
      go_wp2_with fail
      have e3 : ((m : Int) % 64 != 56) = false := by rw [bne, e2]; rfl
      rw [e3]
      clear e1 e2 e3
      go_loopg [3, 4] 8 (fun g s3 s4 wx => ∃ j : Nat, g = 8 - j ∧ j ≤ 8 ∧ s4 = .int .i64 j ∧ OwnB w.heap.size wx s3 (seg (Md.padded (bl s) s.size) 0 (m + j)) ∧ Fr [] w wx)
      case atStart => exact ⟨0, rfl, by omega, rfl, how, hF⟩
      case round =>
        obtain ⟨j, hg5, hj, rfl, how5, hF5⟩ := hrel
        have hG5 := Hid.mk' hg5
        clear hg5
        obtain ⟨a5, p5, rfl, hcap5, hadr5, hcm5⟩ := how5.forms
        by_cases hlj : j < 8
        · have hlj' : (j : Int) < 8 := by omega
          have hb1 : (seg (Md.padded (bl s) s.size) 0 (m + j)).length ≤ 1048700 := by rw [seg_length]; have := hT2.out; omega
          have hb3 : w.heap.size ≤ wr.heap.size := hF5.size
          have f1 : (8 * (j : Int)).toNat = 8 * j := by omega
          have f2 : (0 : Int) ≤ 8 * (j : Int) := by omega
          have hv : Hid ((8 * (s.size : Int)) / 2 ^ (8 * j) % 256 = ((Md.padded (bl s) s.size (m + j) : Nat) : Int)) := by
            unfold Hid
            rw [hT2.out, padded_len]
            simp
          have hsg5 : Hid (seg (Md.padded (bl s) s.size) 0 (m + j) ++ [Value.int .u8 ((8 * (s.size : Int)) / 2 ^ (8 * j) % 256)] = seg (Md.padded (bl s) s.size) 0 (m + (j + 1))) := seg_snoc _ (m + j) _ hv.out
          go_wp2_with (at_builtin; refine wpList_append_one wr rfl (.tmp 26) (.tmp 34) rfl w.heap.size (.slice a5 (m + j) p5) _ rfl how5 _ rfl hb1 hb3 ?nextC; intro v4 w4 how4 hf4 _; rw [hsg5.out] at how4; obtain ⟨a4, p4, rfl, hcap4, hadr4, hcm4⟩ := how4.forms)
          go_roundg (8 - (j + 1))
          case measure => have := hG5.out; omega
          case rel => exact ⟨j + 1, rfl, by omega, by go_num, how4, fr_own hF5 rfl (fun g hg => (how5.lt g hg).1) hf4⟩
        · obtain rfl : j = 8 := by omega
          obtain ⟨tg, rfl⟩ := hadr5 (by omega)
          have hcell : Hid (∀ i, i < m + 8 → wr.cell? ⟨tg, i, none⟩ = some (.int .u8 (Md.padded (bl s) s.size i))) := fun i hi => by
            have := how5.cell i _ (seg_get _ 0 (m + 8) i hi)
            rwa [Nat.zero_add] at this
          go_wp2_with (go_at_call 15; (with_reducible refine (sines_any _).mono ?_); rintro e w6 ⟨rfl, hsn6, hF6⟩)
          have hFa : Fr [] wr w6 := (Fr.alloc [] wr _).same hF6
          have hb6 := hF6.blk (Blk.new wr _ _) (by simp)
          have hcell6 : Hid (∀ i, i < m + 8 → w6.cell? ⟨tg, i, none⟩ = some (.int .u8 (Md.padded (bl s) s.size i))) := fun i hi => hFa.cell (hcell.out i hi) (by simp)
          have hsn7 : Hid (∀ i, i < 64 → w6.cell? ⟨wr.heap.size + 1, i, none⟩ = some (.int .i64 (Md.sines.getD i 0 : Nat))) := fun i hi => by simpa using hsn6 i hi
          have hst6 : ∀ i, i < 4 → w6.cell? ⟨wr.heap.size, i, none⟩ = (#[Value.int .i64 (Md.runs (Md.padded (bl s) s.size) Md.start 0).a, .int .i64 (Md.runs (Md.padded (bl s) s.size) Md.start 0).b, .int .i64 (Md.runs (Md.padded (bl s) s.size) Md.start 0).c, .int .i64 (Md.runs (Md.padded (bl s) s.size) Md.start 0).d] : Array Value)[i]? := fun i _ => hb6.cell i
          have hF7 : Fr [] w w6 := hF5.same hFa
          have hfull : Hid (m + 8 = 64 * Md.full s.size) := by unfold Hid Md.full; rw [hT2.out]; omega
          clear hsn6 hb6 hFa hF6 hcell
          generalize wr.heap.size + 1 = ab at *
          generalize wr.heap.size = hb0 at *
          go_loopg [5, 7] (Md.full s.size) (fun g s5 s7 wx => ∃ c hb : Nat, g = Md.full s.size - c ∧ c ≤ Md.full s.size ∧ s5 = .slice (some ⟨hb, 0, none⟩) 4 4 ∧ s7 = .int .i64 (64 * (c : Int)) ∧
            Hid (∀ i, i < 4 → wx.cell? ⟨hb, i, none⟩ = (#[Value.int .i64 (Md.runs (Md.padded (bl s) s.size) Md.start c).a, .int .i64 (Md.runs (Md.padded (bl s) s.size) Md.start c).b, .int .i64 (Md.runs (Md.padded (bl s) s.size) Md.start c).c, .int .i64 (Md.runs (Md.padded (bl s) s.size) Md.start c).d] : Array Value)[i]?) ∧ Fr [] w6 wx)
          case atStart => exact ⟨0, hb0, rfl, Nat.zero_le _, rfl, rfl, hst6, Fr.refl _ _⟩
          case round =>
            obtain ⟨c, hb, hg7, hc7, rfl, rfl, hcs7, hF8⟩ := hrel
            have hG7 := Hid.mk' hg7
            clear hg7
            by_cases hlc : c < Md.full s.size
            · have hlc' : (64 * (c : Int)) < (m : Int) + 8 := by have := hfull.out; omega
              have hp64 : 64 * (c : Int) + 64 ≤ (p5 : Int) := by have := hfull.out; omega
              have hnx : Hid (Md.runs (Md.padded (bl s) s.size) Md.start (c + 1) = Md.block (Md.word (Md.padded (bl s) s.size) (64 * c)) (Md.runs (Md.padded (bl s) s.size) Md.start c)) := rfl
              have hck := fun cap => Hid.mk' (chunk_any (w := wr) (hb := hb) (ab := ab) (sb := tg) (off := 64 * c) (cap := cap) (o := 64 * c) (Md.runs_ok (Md.padded (bl s) s.size) Md.start_ok c) (fun i => Md.padded_lt (bl_lt s) s.size i) hcs7.out (fun i hi => hF8.cell (hsn7.out i hi) (by simp)) (fun i hi => hF8.cell (hcell6.out (64 * c + i) (by have := hfull.out; omega)) (by simp)))
              go_wp2_with (go_at_call 16; (with_reducible refine ((hck _).out).mono ?_); rintro e w7 ⟨nb, rfl, hcs8, hF9⟩)
              go_roundg (Md.full s.size - (c + 1))
              case measure => have := hG7.out; omega
              case rel =>
                refine ⟨c + 1, nb, rfl, by omega, rfl, by go_num, ?_, hF8.same hF9⟩
                unfold Hid
                rw [hnx.out]
                exact hcs8
            · obtain rfl : c = Md.full s.size := by omega
              have hlc' : ¬ (64 * (Md.full s.size : Int)) < (m : Int) + 8 := by have := hfull.out; omega
              have hmk := made16 wr
              have hsk := Md.runs_ok (Md.padded (bl s) s.size) Md.start_ok (Md.full s.size)
              go_wp2_with fail
              have hO0 := OutB.made wr (Md.out (Md.runs (Md.padded (bl s) s.size) Md.start (Md.full s.size)))
              have hF10 := Fr.alloc [] wr (.cells (madeCells #[Value.int .u8 0] 16) 5)
              have hob : hb ≠ wr.heap.size := fun e => by
                have := World.block_lt_of_cell? wr _ ((hcs7.out 0 (by decide)).trans rfl)
                rw [← e] at this
                exact Nat.lt_irrefl _ this
              have hcs10 : Hid (∀ i, i < 4 → (wr.alloc (.cells (madeCells #[Value.int .u8 0] 16) 5)).cell? ⟨hb, i, none⟩ = _) := fun i hi => (World.cell?_of_block (a := ⟨hb, i, none⟩) (hF10.block hb (World.block_lt_of_cell? wr _ ((hcs7.out 0 (by decide)).trans rfl)) (by simp))).trans (hcs7.out i hi)
              have hF11 : Fr [] w (wr.alloc (.cells (madeCells #[Value.int .u8 0] 16) 5)) := (hF7.same hF8).same hF10
              clear hmk hF10
              have hobw : Hid (w.heap.size ≤ wr.heap.size) := (hF7.same hF8).size
              generalize wr.alloc (.cells (madeCells #[Value.int .u8 0] 16) 5) = w10 at *
              generalize wr.heap.size = ob at *
              go_loopg [9] 16 (fun g s9 wx => ∃ k : Nat, g = 16 - k ∧ k ≤ 16 ∧ s9 = .int .i64 k ∧ OutB wx ob (Md.out (Md.runs (Md.padded (bl s) s.size) Md.start (Md.full s.size))) k ∧ Fr [ob] w10 wx)
              case atStart => exact ⟨0, rfl, by omega, rfl, hO0, Fr.refl _ _⟩
              case round =>
                obtain ⟨k, hg9, hk, rfl, hO, hF12⟩ := hrel
                have hG9 := Hid.mk' hg9
                clear hg9 hO0
                by_cases hlk : k < 16
                · have hlk' : (k : Int) < 16 := by omega
                  obtain ⟨x, hx, hox, hxl⟩ := out_sel (w := wr) (fun i hi => (World.cell?_of_block (a := ⟨hb, i, none⟩) (hF12.block hb (World.block_lt_of_cell? w10 _ ((hcs10.out 0 (by decide)).trans rfl)) (by simpa using hob))).trans (hcs10.out i hi)) hsk k hlk
                  obtain ⟨v9, hv9, hz9⟩ := hO.there k hlk
                  have a1 : ((k : Int)).tdiv 4 = (k : Int) / 4 := Int.tdiv_eq_ediv_of_nonneg (by omega)
                  have a2 : ((k : Int)).tmod 4 = (k : Int) % 4 := Int.tmod_eq_emod_of_nonneg (by omega)
                  have a7 : (8 * ((k : Int) % 4)).toNat = 8 * (k % 4) := by omega
                  have a8 : (0 : Int) ≤ 8 * ((k : Int) % 4) := by omega
                  have hox' := Hid.mk' hox
                  clear hox
                  go_wp2_with fail
                  go_roundg (16 - (k + 1))
                  case measure => have := hG9.out; omega
                  case rel => exact ⟨k + 1, rfl, by omega, by go_num, hO.set hlk _ (congrArg (Value.int .u8) (by rw [hox'.out]; simp)), hF12.set' _ (List.mem_singleton.2 rfl)⟩
                · obtain rfl : k = 16 := by omega
                  have hcv := conv16 hO (Md.out_lt _)
                  go_wp2_with fail
                  go_ret
                  refine ⟨⟨_, rfl, ?_⟩, ?_⟩
                  · exact txt_text16 _ (Md.out_lt _)
                  · exact hF11.trans hF12 (fun x hx => .inr (by rw [List.mem_singleton] at hx; rw [hx]; exact hobw.out))
    · have e2 : ((m : Int) % 64 == 56) = false := by simp; omega
      have hsg3 : Hid (seg (Md.padded (bl s) s.size) 0 m ++ [Value.int .u8 0] = seg (Md.padded (bl s) s.size) 0 (m + 1)) := seg_snoc _ m 0 (by rw [padded_nil _ hm1 (by omega)]; rfl)
      go_wp2_with (at_builtin; refine wpList_append_one wr rfl (.tmp 19) (.tmp 20) rfl w.heap.size (.slice a3 m p3) _ rfl how 0 rfl hb1 hb2 ?nextB; intro v4 w4 how4 hf4 _; rw [hsg3.out] at how4; obtain ⟨a4, p4, rfl, hcap4, hadr4, hcm4⟩ := how4.forms)
      go_roundg (64 * ((s.size + 8) / 64) + 56 - (m + 1))
      case measure => have := hG.out; omega
      case rel => exact ⟨m + 1, rfl, by omega, by omega, how4, fr_own hF rfl (fun g hg => (how.lt g hg).1) hf4⟩
end Go.Proofs.YthigfpaajbejdaaDoor
