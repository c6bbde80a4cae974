/-
  flac.Sums, walked.
-/
import Derived.Test.YthigfpaajbejdaaDoorKitOf
import Derived.Test.YthigfpaajbejdaaDoorTab16
import Derived.Deep.RegionHeld3
import Derived.Test.YthigfpaajbejdaaDoorRefuseB
namespace Go.Proofs.YthigfpaajbejdaaDoor
open Go.RowKit

theorem piece_cells (s : ByteArray) (j m : Nat) (h : j + m ≤ s.size) : Lib.strCells ((s.extract j s.size).extract 0 m) = seg (bl s) j m := by
  apply seg_ext
  · rw [Lib.strCells_length, ByteArray.size_extract, ByteArray.size_extract]; omega
  · intro i hi
    have hd : i < (((s.extract j s.size).extract 0 m).data).size := by
      show i < ((s.extract j s.size).extract 0 m).size
      rw [ByteArray.size_extract, ByteArray.size_extract]; omega
    have hs : j + i < s.data.size := by show j + i < s.size; omega
    unfold Lib.strCells bl
    rw [List.getElem?_map, Array.getElem?_toList, Array.getElem?_eq_getElem hd]
    simp [ByteArray.data_extract, hs]
    rw [Array.getElem?_eq_getElem hs]; rfl
theorem isEmpty_sz (s : ByteArray) : s.toList.isEmpty = decide (s.size = 0) := by
  rw [ByteArray.toList_eq]
  have : s.size = s.data.toList.length := (Array.length_toList (xs := s.data)).symm
  rw [this]
  cases s.data.toList <;> simp
theorem sums_keep {kb : Nat} {f g : Value} {w0 w1 w2 : World} (h : w1.cell? ⟨kb, 0, none⟩ = some f ∧ w1.cell? ⟨kb, 1, none⟩ = some g ∧ Fr [] w0 w1) (hf : Fr [] w1 w2) :
    w2.cell? ⟨kb, 0, none⟩ = some f ∧ w2.cell? ⟨kb, 1, none⟩ = some g ∧ Fr [] w0 w2 := ⟨hf.cell h.1 (by simp), hf.cell h.2.1 (by simp), h.2.2.same hf⟩
theorem sums_hash {kb : Nat} {f g : Value} {w0 w1 : World} {B hb : Nat} {s : ByteArray} {n : Nat} {v : Value} (hV : HashV B w0 hb (bl s) n v) (hg : MdGl w0) (h : w1.cell? ⟨kb, 0, none⟩ = some f ∧ w1.cell? ⟨kb, 1, none⟩ = some g ∧ Fr [] w0 w1) :
    Calls Tryd.prog 29 #[.pointer (some ⟨hb, 0, none⟩)] w1 fun e w' => (∃ r : ByteArray, e = .returned (.string r) ∧ txt r = Md.sum (bl s) n) ∧ Fr [] w1 w' :=
  hsum_any (bl_lt s) ⟨h.2.2.blk hV.hash.blk (by simp), hV.win.keep h.2.2 (by simp), hV.above, hV.small⟩ (hg.keep h.2.2 (by simp) (by simp))
theorem sums_t8 {kb : Nat} {f g : Value} {w0 w1 : World} {s : ByteArray} {tb : Nat} (hT : TabP w0 tb) (hs : s.size ≤ 1048576) (h : w1.cell? ⟨kb, 0, none⟩ = some f ∧ w1.cell? ⟨kb, 1, none⟩ = some g ∧ Fr [] w0 w1) :
    Calls Tryd.prog 39 #[.pointer (some ⟨tb, 0, none⟩), .string s] w1 fun e w' => e = .returned (.int .u8 (Crc.text 8 7 (txt s))) ∧ Fr [] w1 w' := tcrc8_any s (by omega) tb w1 (hT.keep h.2.2 (by simp))
theorem sums_t16 {kb : Nat} {f g : Value} {w0 w1 : World} {s : ByteArray} {tb : Nat} (hT : TabP w0 tb) (hs : s.size ≤ 1048576) (h : w1.cell? ⟨kb, 0, none⟩ = some f ∧ w1.cell? ⟨kb, 1, none⟩ = some g ∧ Fr [] w0 w1) :
    Calls Tryd.prog 40 #[.pointer (some ⟨tb, 0, none⟩), .string s] w1 fun e w' => e = .returned (.int .u16 (Crc.text 16 0x8005 (txt s))) ∧ Fr [] w1 w' := tcrc16_any s (by omega) tb w1 (hT.keep h.2.2 (by simp))
theorem sums_c8 {w1 : World} {s : ByteArray} (hs : s.size ≤ 1048576) :
    Calls Tryd.prog 42 #[.string s] w1 fun e w' => e = .returned (.int .u8 (Crc.text 8 7 (txt s))) ∧ w1 = w' := crc8_any s (by omega) w1
theorem sums_c16 {w1 : World} {s : ByteArray} (hs : s.size ≤ 1048576) :
    Calls Tryd.prog 43 #[.string s] w1 fun e w' => e = .returned (.int .u16 (Crc.text 16 0x8005 (txt s))) ∧ w1 = w' := crc16_any s (by omega) w1
theorem sums_fr {B : Nat} {w0 w1 w2 : World} {hb : Nat} {l : Nat → Nat} {n : Nat} {v : Value} (h : HashV B w1 hb l n v) (hB : B = w0.heap.size) (h1 : Fr [] w0 w1) (hf : Fr (hb :: v.ownBlock.toList) w1 w2) : Fr [] w0 w2 :=
  h1.trans hf (fun x hx => .inr (by
    rw [← hB]
    rcases List.mem_cons.1 hx with rfl | hx
    · exact h.above
    · exact (h.win.lt x (by simpa using hx)).1))

set_option maxRecDepth 100000 in
set_option maxHeartbeats 2000000 in
theorem fSums_slow (s : ByteArray) (hs : s.size ≤ 1048576) (n : Nat) (hn : 1 ≤ n) (w : World) (hg : MdGl w) :
    Calls Tryd.prog 13 #[.string s, .int .i64 0, .int .i64 n] w fun e w' => (∃ r : ByteArray, e = .returned (.tuple #[.int .u8 (Crc.text 8 7 (txt s)), .int .u16 (Crc.text 16 0x8005 (txt s)), .string r, .nilIface]) ∧ txt r = Md.sum (bl s) s.size) ∧ Fr [] w w' := by
  have hg' := Hid.mk' hg
  have hn' : (1 : Int) ≤ (n : Int) := by omega
  clear hg
  go_enter Tryd.func13, Tryd.ntmps13
  go_wp2_with (first
    | (go_at_call 26; (with_reducible refine (kitOf_slow _).mono ?_); rintro e w1 ⟨rfl, hf1⟩)
    | (go_at_call 27; (with_reducible refine (hNew_any _).mono ?_); rintro e w2 ⟨rfl, hh2, hf2⟩))
  have hk1 := Blk.new w1 #[.func (Fn.func 42) #[] #[], .func (Fn.func 43) #[] #[], .func (Fn.func 44) #[] #[]] 83
  have hF1 := hf1.alloc' (.cells #[.func (Fn.func 42) #[] #[], .func (Fn.func 43) #[] #[], .func (Fn.func 44) #[] #[]] 83)
  have hgB : Hid (1 < (w1.alloc (.cells #[.func (Fn.func 42) #[] #[], .func (Fn.func 43) #[] #[], .func (Fn.func 44) #[] #[]] 83)).heap.size ∧ 2 < (w1.alloc (.cells #[.func (Fn.func 42) #[] #[], .func (Fn.func 43) #[] #[], .func (Fn.func 44) #[] #[]] 83)).heap.size) := by
    have h1 := World.block_lt_of_cell? w _ (hg'.out.adds 0 (by decide))
    have h2 := World.block_lt_of_cell? w _ (hg'.out.turns 0 (by decide))
    have h3 := hF1.size
    exact ⟨Nat.lt_of_lt_of_le h1 h3, Nat.lt_of_lt_of_le h2 h3⟩
  have hg1 := Hid.mk' (hg'.out.keep hF1 (by simp) (by simp))
  have hsz1 : (w1.alloc (.cells #[.func (Fn.func 42) #[] #[], .func (Fn.func 43) #[] #[], .func (Fn.func 44) #[] #[]] 83)).heap.size = w1.heap.size + 1 := by simp
  rw [← hsz1]
  clear hsz1
  generalize w1.alloc (.cells #[.func (Fn.func 42) #[] #[], .func (Fn.func 43) #[] #[], .func (Fn.func 44) #[] #[]] 83) = W at *
  generalize w1.heap.size = kb at *
  have hV : HashV W.heap.size w2 W.heap.size (bl s) 0 (.slice none 0 0) := ⟨hh2, .inl ⟨rfl, rfl⟩, Nat.le_refl _, Nat.zero_le _⟩
  clear hh2
  go_loopg [12] s.size (fun g s12 wx => ∃ (j : Nat) (t : ByteArray) (v : Value), g = s.size - j ∧ j ≤ s.size ∧ Hid (t = s.extract j s.size) ∧ s12 = .string t ∧ HashV W.heap.size wx W.heap.size (bl s) j v ∧ Fr [] W wx)
  case atStart => exact ⟨0, s, _, rfl, Nat.zero_le _, (by unfold Hid; apply ByteArray.ext; simp [ByteArray.data_extract]), rfl, hV, hf2⟩
  case round =>
    obtain ⟨j, t, v, hg3, hj, hte, rfl, hV3, hF3⟩ := hrel
    have hG := Hid.mk' hg3
    clear hg3 hV
    have htz : Hid (t.size = s.size - j) := by unfold Hid; rw [hte.out]; exact ext_size s j hj
    have htm : t.size ≤ 9223372036854775806 := by have := htz.out; omega
    by_cases hjs : j < s.size
    · have hts : 0 < t.size := by have := htz.out; omega
      have hem : (!t.toList.isEmpty) = true := by rw [isEmpty_sz, decide_eq_false (by omega)]; rfl
      by_cases hnt : n ≤ t.size
      · have hnt' : (n : Int) ≤ (t.size : Int) := by omega
        have hle : j + n ≤ s.size := by have := htz.out; omega
        have hwr := Hid.mk' (write_any (s := (s.extract j s.size).extract 0 n) (bl_lt s) hV3 (hg1.out.keep hF3 (by simp) (by simp)) hF3.size hgB.out (by rw [piece_cells s j _ hle, ByteArray.size_extract, ByteArray.size_extract]; congr 1; omega) (by rw [ByteArray.size_extract, ByteArray.size_extract]; omega))
        rw [← hte.out] at hwr
        have htn : Hid (j + (t.extract 0 n).size = j + n) := by unfold Hid; rw [ByteArray.size_extract]; have := htz.out; omega
        go_wp2_with (go_at_call 28; (with_reducible refine (hwr.out).mono ?_); rintro e w3 ⟨rfl, hf3, v3, hV4, _⟩; rw [htn.out] at hV4)
        go_roundg (s.size - (j + n))
        case measure => have := hG.out; omega
        case rel =>
          refine ⟨j + n, t.extract n t.size, v3, rfl, hle, ?_, rfl, hV4, sums_fr hV3 rfl hF3 hf3⟩
          unfold Hid
          rw [hte.out]
          exact ext_cut s j n hle
      · have hnt' : ¬ (n : Int) ≤ (t.size : Int) := by omega
        have hle : j + t.size ≤ s.size := by have := htz.out; omega
        have hcl : Lib.strCells t = seg (bl s) j t.size := by
          have h := piece_cells s j t.size hle
          rw [← hte.out] at h
          rwa [show t.extract 0 t.size = t by apply ByteArray.ext; simp [ByteArray.data_extract]] at h
        have hwr := Hid.mk' (write_any (s := t) (bl_lt s) hV3 (hg1.out.keep hF3 (by simp) (by simp)) hF3.size hgB.out hcl (by omega))
        have htn : Hid (j + t.size = s.size) := by unfold Hid; have := htz.out; omega
        clear hcl
        go_wp2_with (go_at_call 28; (with_reducible refine (hwr.out).mono ?_); rintro e w3 ⟨rfl, hf3, v3, hV4, _⟩; rw [htn.out] at hV4)
        go_roundg 0
        case measure => have := hG.out; omega
        case rel =>
          refine ⟨s.size, _, v3, by omega, Nat.le_refl _, ?_, rfl, hV4, sums_fr hV3 rfl hF3 hf3⟩
          unfold Hid
          apply ByteArray.ext
          simp [ByteArray.data_extract]
    · obtain rfl : j = s.size := by omega
      have hem : (!t.toList.isEmpty) = false := by rw [isEmpty_sz, decide_eq_true (by have := htz.out; omega)]; rfl
      have hk3 := hF3.blk hk1 (by simp)
      have c0 := hk3.cell 0
      have c1 := hk3.cell 1
      have hMd := Hid.mk' (hg1.out.keep hF3 (by simp) (by simp))
      clear hk3 hk1
      go_wp2_with fail
      go_region_held3 (fun w' => w'.cell? ⟨kb, 0, none⟩ = some (.func (Fn.func 42) #[] #[]) ∧ w'.cell? ⟨kb, 1, none⟩ = some (.func (Fn.func 43) #[] #[]) ∧ Fr [] wr w')
        (first | exact ⟨c0, c1, Fr.drewN [] wr 1⟩ | assumption)
        (first
          | (go_at_call 42; (with_reducible refine (sums_c8 hs).mono ?_); rintro e w4 ⟨rfl, rfl⟩)
          | (go_at_call 43; (with_reducible refine (sums_c16 hs).mono ?_); rintro e w5 ⟨rfl, rfl⟩)
          | (go_at_call 29; (with_reducible refine (sums_hash hV3 hMd.out (by assumption)).mono ?_); rintro e w6 ⟨⟨r, rfl, hr⟩, hf6⟩; have hS6 := sums_keep (by assumption) hf6))
      all_goals
        go_wp2_with fail
        refine bodyPost_ret (results_tmp4 rfl _ _ _) rfl ?_
        exact ⟨⟨r, rfl, hr⟩, hF1.same (hF3.same hS6.2.2)⟩

set_option maxRecDepth 100000 in
set_option maxHeartbeats 2000000 in
theorem fSums_fast (s : ByteArray) (hs : s.size ≤ 1048576) (n : Nat) (hn : 1 ≤ n) (w : World) (hg : MdGl w) :
    Calls Tryd.prog 13 #[.string s, .int .i64 1, .int .i64 n] w fun e w' => (∃ r : ByteArray, e = .returned (.tuple #[.int .u8 (Crc.text 8 7 (txt s)), .int .u16 (Crc.text 16 0x8005 (txt s)), .string r, .nilIface]) ∧ txt r = Md.sum (bl s) s.size) ∧ Fr [] w w' := by
  have hg' := Hid.mk' hg
  have hn' : (1 : Int) ≤ (n : Int) := by omega
  clear hg
  go_enter Tryd.func13, Tryd.ntmps13
  go_wp2_with (first
    | (go_at_call 26; (with_reducible refine (kitOf_fast _).mono ?_); rintro e w1 ⟨tb, rfl, ht1, htb, hf1⟩)
    | (go_at_call 27; (with_reducible refine (hNew_any _).mono ?_); rintro e w2 ⟨rfl, hh2, hf2⟩))
  have hk1 := Blk.new w1 #[.func (Fn.func 39) #[.pointer (some ⟨tb, 0, none⟩)] #[], .func (Fn.func 40) #[.pointer (some ⟨tb, 0, none⟩)] #[], .func (Fn.func 41) #[] #[]] 83
  have hF1 := hf1.alloc' (.cells #[.func (Fn.func 39) #[.pointer (some ⟨tb, 0, none⟩)] #[], .func (Fn.func 40) #[.pointer (some ⟨tb, 0, none⟩)] #[], .func (Fn.func 41) #[] #[]] 83)
  have hgB : Hid (1 < (w1.alloc (.cells #[.func (Fn.func 39) #[.pointer (some ⟨tb, 0, none⟩)] #[], .func (Fn.func 40) #[.pointer (some ⟨tb, 0, none⟩)] #[], .func (Fn.func 41) #[] #[]] 83)).heap.size ∧ 2 < (w1.alloc (.cells #[.func (Fn.func 39) #[.pointer (some ⟨tb, 0, none⟩)] #[], .func (Fn.func 40) #[.pointer (some ⟨tb, 0, none⟩)] #[], .func (Fn.func 41) #[] #[]] 83)).heap.size) := by
    have h1 := World.block_lt_of_cell? w _ (hg'.out.adds 0 (by decide))
    have h2 := World.block_lt_of_cell? w _ (hg'.out.turns 0 (by decide))
    have h3 := hF1.size
    exact ⟨Nat.lt_of_lt_of_le h1 h3, Nat.lt_of_lt_of_le h2 h3⟩
  have hg1 := Hid.mk' (hg'.out.keep hF1 (by simp) (by simp))
  have ht2 := ht1.keep (Fr.alloc [] w1 (.cells #[.func (Fn.func 39) #[.pointer (some ⟨tb, 0, none⟩)] #[], .func (Fn.func 40) #[.pointer (some ⟨tb, 0, none⟩)] #[], .func (Fn.func 41) #[] #[]] 83)) (by simp)
  have hsz1 : (w1.alloc (.cells #[.func (Fn.func 39) #[.pointer (some ⟨tb, 0, none⟩)] #[], .func (Fn.func 40) #[.pointer (some ⟨tb, 0, none⟩)] #[], .func (Fn.func 41) #[] #[]] 83)).heap.size = w1.heap.size + 1 := by simp
  rw [← hsz1]
  clear hsz1
  generalize w1.alloc (.cells #[.func (Fn.func 39) #[.pointer (some ⟨tb, 0, none⟩)] #[], .func (Fn.func 40) #[.pointer (some ⟨tb, 0, none⟩)] #[], .func (Fn.func 41) #[] #[]] 83) = W at *
  generalize w1.heap.size = kb at *
  have hV : HashV W.heap.size w2 W.heap.size (bl s) 0 (.slice none 0 0) := ⟨hh2, .inl ⟨rfl, rfl⟩, Nat.le_refl _, Nat.zero_le _⟩
  clear hh2
  go_loopg [12] s.size (fun g s12 wx => ∃ (j : Nat) (t : ByteArray) (v : Value), g = s.size - j ∧ j ≤ s.size ∧ Hid (t = s.extract j s.size) ∧ s12 = .string t ∧ HashV W.heap.size wx W.heap.size (bl s) j v ∧ Fr [] W wx)
  case atStart => exact ⟨0, s, _, rfl, Nat.zero_le _, (by unfold Hid; apply ByteArray.ext; simp [ByteArray.data_extract]), rfl, hV, hf2⟩
  case round =>
    obtain ⟨j, t, v, hg3, hj, hte, rfl, hV3, hF3⟩ := hrel
    have hG := Hid.mk' hg3
    clear hg3 hV
    have htz : Hid (t.size = s.size - j) := by unfold Hid; rw [hte.out]; exact ext_size s j hj
    have htm : t.size ≤ 9223372036854775806 := by have := htz.out; omega
    by_cases hjs : j < s.size
    · have hts : 0 < t.size := by have := htz.out; omega
      have hem : (!t.toList.isEmpty) = true := by rw [isEmpty_sz, decide_eq_false (by omega)]; rfl
      by_cases hnt : n ≤ t.size
      · have hnt' : (n : Int) ≤ (t.size : Int) := by omega
        have hle : j + n ≤ s.size := by have := htz.out; omega
        have hwr := Hid.mk' (write_any (s := (s.extract j s.size).extract 0 n) (bl_lt s) hV3 (hg1.out.keep hF3 (by simp) (by simp)) hF3.size hgB.out (by rw [piece_cells s j _ hle, ByteArray.size_extract, ByteArray.size_extract]; congr 1; omega) (by rw [ByteArray.size_extract, ByteArray.size_extract]; omega))
        rw [← hte.out] at hwr
        have htn : Hid (j + (t.extract 0 n).size = j + n) := by unfold Hid; rw [ByteArray.size_extract]; have := htz.out; omega
        go_wp2_with (go_at_call 28; (with_reducible refine (hwr.out).mono ?_); rintro e w3 ⟨rfl, hf3, v3, hV4, _⟩; rw [htn.out] at hV4)
        go_roundg (s.size - (j + n))
        case measure => have := hG.out; omega
        case rel =>
          refine ⟨j + n, t.extract n t.size, v3, rfl, hle, ?_, rfl, hV4, sums_fr hV3 rfl hF3 hf3⟩
          unfold Hid
          rw [hte.out]
          exact ext_cut s j n hle
      · have hnt' : ¬ (n : Int) ≤ (t.size : Int) := by omega
        have hle : j + t.size ≤ s.size := by have := htz.out; omega
        have hcl : Lib.strCells t = seg (bl s) j t.size := by
          have h := piece_cells s j t.size hle
          rw [← hte.out] at h
          rwa [show t.extract 0 t.size = t by apply ByteArray.ext; simp [ByteArray.data_extract]] at h
        have hwr := Hid.mk' (write_any (s := t) (bl_lt s) hV3 (hg1.out.keep hF3 (by simp) (by simp)) hF3.size hgB.out hcl (by omega))
        have htn : Hid (j + t.size = s.size) := by unfold Hid; have := htz.out; omega
        clear hcl
        go_wp2_with (go_at_call 28; (with_reducible refine (hwr.out).mono ?_); rintro e w3 ⟨rfl, hf3, v3, hV4, _⟩; rw [htn.out] at hV4)
        go_roundg 0
        case measure => have := hG.out; omega
        case rel =>
          refine ⟨s.size, _, v3, by omega, Nat.le_refl _, ?_, rfl, hV4, sums_fr hV3 rfl hF3 hf3⟩
          unfold Hid
          apply ByteArray.ext
          simp [ByteArray.data_extract]
    · obtain rfl : j = s.size := by omega
      have hem : (!t.toList.isEmpty) = false := by rw [isEmpty_sz, decide_eq_true (by have := htz.out; omega)]; rfl
      have hk3 := hF3.blk hk1 (by simp)
      have c0 := hk3.cell 0
      have c1 := hk3.cell 1
      have hT3 := ht2.keep hF3 (by simp)
      have hMd := Hid.mk' (hg1.out.keep hF3 (by simp) (by simp))
      clear hk3 hk1
      go_wp2_with fail
      go_region_held3 (fun w' => w'.cell? ⟨kb, 0, none⟩ = some (.func (Fn.func 39) #[.pointer (some ⟨tb, 0, none⟩)] #[]) ∧ w'.cell? ⟨kb, 1, none⟩ = some (.func (Fn.func 40) #[.pointer (some ⟨tb, 0, none⟩)] #[]) ∧ Fr [] wr w')
        (first | exact ⟨c0, c1, Fr.drewN [] wr 1⟩ | assumption)
        (first
          | (go_at_call 39; (with_reducible refine (sums_t8 hT3 hs (by assumption)).mono ?_); rintro e w4 ⟨rfl, hf4⟩; have hS4 := sums_keep (by assumption) hf4)
          | (go_at_call 40; (with_reducible refine (sums_t16 hT3 hs (by assumption)).mono ?_); rintro e w5 ⟨rfl, hf5⟩; have hS5 := sums_keep (by assumption) hf5)
          | (go_at_call 29; (with_reducible refine (sums_hash hV3 hMd.out (by assumption)).mono ?_); rintro e w6 ⟨⟨r, rfl, hr⟩, hf6⟩; have hS6 := sums_keep (by assumption) hf6))
      all_goals
        go_wp2_with fail
        refine bodyPost_ret (results_tmp4 rfl _ _ _) rfl ?_
        exact ⟨⟨r, rfl, hr⟩, hF1.same (hF3.same hS6.2.2)⟩

end Go.Proofs.YthigfpaajbejdaaDoor
