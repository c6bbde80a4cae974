/-
  strconv.Itoa and an error's text: they end, and give some text that is not empty.
-/
import Derived.Test.YthigfpaajbejdaaDoorItoa
import Derived.Laws.BytesArg
import Derived.Deep.RegionHeld3
namespace Go.Proofs.YthigfpaajbejdaaDoor
open Go.RowKit

theorem fmt_any (nd ab cap u : Nat) (c : Array Value) (t : TypeId) (w : World) (hn : nd ≤ 7) (hc : U8s c) (hb : Blk w ab c t) (hcap : 7 ≤ cap) (hcap2 : cap ≤ 30) (hu : u < 2097152) :
    Calls Tryd.prog 102 #[.slice (some ⟨ab, 1, none⟩) nd cap, .int .u64 u] w fun e w' => e = .returned (.tuple #[]) ∧ RU w ab t w' := by
  match nd, hn with
  | 0, _ => exact fmt_0 ab cap u c t w hc hb hcap hcap2 hu
  | 1, _ => exact fmt_1 ab cap u c t w hc hb hcap hcap2 hu
  | 2, _ => exact fmt_2 ab cap u c t w hc hb hcap hcap2 hu
  | 3, _ => exact fmt_3 ab cap u c t w hc hb hcap hcap2 hu
  | 4, _ => exact fmt_4 ab cap u c t w hc hb hcap hcap2 hu
  | 5, _ => exact fmt_5 ab cap u c t w hc hb hcap hcap2 hu
  | 6, _ => exact fmt_6 ab cap u c t w hc hb hcap hcap2 hu
  | 7, _ => exact fmt_7 ab cap u c t w hc hb hcap hcap2 hu

def zeros24 : Array Value := #[.int .u8 0, .int .u8 0, .int .u8 0, .int .u8 0, .int .u8 0, .int .u8 0, .int .u8 0, .int .u8 0, .int .u8 0, .int .u8 0, .int .u8 0, .int .u8 0, .int .u8 0, .int .u8 0, .int .u8 0, .int .u8 0, .int .u8 0, .int .u8 0, .int .u8 0, .int .u8 0, .int .u8 0, .int .u8 0, .int .u8 0, .int .u8 0]
theorem zeros24_u8 : U8s zeros24 := by
  have e : zeros24 = Array.replicate 24 (.int .u8 0) := rfl
  rw [e]
  exact ⟨by simp, fun i hi => ⟨0, by omega, by simp [hi]⟩⟩
theorem U8s.row {c : Array Value} (h : U8s c) {w : World} {b : Nat} {t : TypeId} (hb : Blk w b c t) (off n : Nat) (hn : off + n ≤ 24) :
    ∃ xs : List Int, xs.length = n ∧ ∀ i, i < n → w.cell? ⟨b, off + i, none⟩ = some (.int .u8 (xs.getD i 0)) := by
  induction n with
  | zero => exact ⟨[], rfl, fun i hi => by omega⟩
  | succ n ih =>
    obtain ⟨xs, hl, hx⟩ := ih (by omega)
    obtain ⟨v, _, hv⟩ := h.2 (off + n) (by omega)
    refine ⟨xs ++ [(v : Int)], by simp [hl], fun i hi => ?_⟩
    by_cases hin : i < n
    · rw [hx i hin]; simp [hl, hin, List.getElem?_append]
    · obtain rfl : i = n := by omega
      rw [hb.cell, hv]; simp [List.getD, List.getElem?_append, ← hl]

/-- Some text, of at most so many bytes; nothing that was there has turned. -/
def SomeStr (n : Nat) (w : World) (e : Ending) (w' : World) : Prop := ∃ s : ByteArray, s.size ≤ n ∧ e = .returned (.string s) ∧ Fr [] w w'

set_option maxRecDepth 100000 in
set_option maxHeartbeats 2000000 in
theorem format_pos (i : Nat) (h1 : 100 ≤ i) (h2 : i < 2097152) (w : World) (hp : Pow w) (hg : 3 < w.heap.size) : Calls Tryd.prog 99 #[.int .i64 i, .int .i64 10] w (SomeStr 30 w) := by
  have hb0 : Blk (w.alloc (.cells zeros24 202)) w.heap.size zeros24 202 := Blk.new w _ _
  have hp1 : Pow (w.alloc (.cells zeros24 202)) := hp.keep (Fr.alloc [] w _) (by simp)
  have hal : Tryd.prog.arrayLen 202 = 24 := by kernel_rfl
  go_enter Tryd.func99, Tryd.ntmps99
  go_wp2_with fail
  refine (numDigits_any i h2 _ hp1).mono ?_
  rintro e w1 ⟨nd, hn, rfl, rfl⟩
  have hn1 : 0 ≤ 1 + (nd : Int) := by omega
  have hn2 : 1 ≤ 1 + (nd : Int) := by omega
  have hn3 : 1 + (nd : Int) ≤ 24 := by omega
  go_wp2_with fail
  rw [show 1 + nd - 1 = nd by omega]
  refine (fmt_any nd w.heap.size 23 i zeros24 _ _ hn zeros24_u8 hb0 (by omega) (by omega) h2).mono ?_
  rintro e w2 ⟨rfl, hf, c', hc', hb'⟩
  obtain ⟨xs, hxl, hx⟩ := hc'.row hb' 1 nd (by omega)
  have hcv := run_convert_bytes_arg (P := Tryd.prog) w2 48 5 Tryd.underlying48 Tryd.underlying5 w.heap.size 1 nd 23 xs hxl hx 9 Tryd.underlying9
  have hcv' : (convert 48 9 (.slice (some ⟨w.heap.size, 1, none⟩) (1 + nd - 1) 23)).run Tryd.prog w2 = .ok (.string (strOfNums xs)) w2 := by
    rw [show 1 + nd - 1 = nd by omega]; exact hcv
  clear hx
  have hlen : (strOfNums xs).size ≤ 30 := by rw [strOfNums_size, hxl]; omega
  have hfr : Fr [] w w2 := (Fr.alloc [] w _).trans hf (fun k hk => .inr (by simp at hk; omega))
  go_wp2_with fail
  go_ret
  exact ⟨_, hlen, rfl, hfr⟩

set_option maxRecDepth 100000 in
set_option maxHeartbeats 2000000 in
theorem format_neg (w : World) (hp : Pow w) (hg : 3 < w.heap.size) : Calls Tryd.prog 99 #[.int .i64 (-1), .int .i64 10] w (SomeStr 30 w) := by
  have hb0 : Blk (w.alloc (.cells zeros24 202)) w.heap.size zeros24 202 := Blk.new w _ _
  have hp1 : Pow (w.alloc (.cells zeros24 202)) := hp.keep (Fr.alloc [] w _) (by simp)
  have hal : Tryd.prog.arrayLen 202 = 24 := by kernel_rfl
  go_enter Tryd.func99, Tryd.ntmps99
  go_wp2_with fail
  refine (numDigits_any 1 (by omega) _ hp1).mono ?_
  rintro e w1 ⟨nd, hn, rfl, rfl⟩
  have hn1 : 0 ≤ 1 + (nd : Int) := by omega
  have hn2 : 1 ≤ 1 + (nd : Int) := by omega
  have hn3 : 1 + (nd : Int) ≤ 24 := by omega
  go_wp2_with fail
  rw [show 1 + nd - 1 = nd by omega]
  refine (fmt_any nd w.heap.size 23 1 zeros24 _ _ hn zeros24_u8 hb0 (by omega) (by omega) (by omega)).mono ?_
  rintro e w2 ⟨rfl, hf, c', hc', hb'⟩
  have hb2 := hb'.set 0 (.int .u8 45)
  obtain ⟨v0, _, hv0⟩ := hc'.2 0 (by omega)
  obtain ⟨xs, hxl, hx⟩ := (hc'.set 0 45 (by omega) (by omega)).row hb2 0 (1 + nd) (by omega)
  have hcv := run_convert_bytes_arg (P := Tryd.prog) _ 48 5 Tryd.underlying48 Tryd.underlying5 w.heap.size 0 (1 + nd) 24 xs hxl hx 9 Tryd.underlying9
  clear hx hb2
  have hcell : w2.cell? ⟨w.heap.size, 0, none⟩ = some (.int .u8 v0) := by rw [hb'.cell, hv0]
  have hfz := hb'.frozen 0
  have hlen : (strOfNums xs).size ≤ 30 := by rw [strOfNums_size, hxl]; omega
  have hfr : Fr [] w w2 := (Fr.alloc [] w _).trans hf (fun k hk => .inr (by simp at hk; omega))
  go_wp2_with fail
  go_ret
  exact ⟨_, hlen, rfl, hfr.setNew _ (Nat.le_refl _)⟩

set_option maxHeartbeats 1000000 in
theorem format_small (i : Nat) (h : i < 100) (w : World) : Calls Tryd.prog 99 #[.int .i64 i, .int .i64 10] w (SomeStr 30 w) := by
  go_enter Tryd.func99, Tryd.ntmps99
  go_wp2_with fail
  refine (small_any i h _).mono ?_
  rintro e w1 ⟨⟨s, hs, rfl⟩, rfl⟩
  go_wp2_with fail
  go_ret
  exact ⟨s, hs, rfl, Fr.refl _ _⟩

/-- The numbers that are asked for as text. -/
def OkN (n : Int) : Prop := n = -1 ∨ (0 ≤ n ∧ n < 2097152)
theorem format_any (n : Int) (hn : OkN n) (w : World) (hp : Pow w) (hg : 3 < w.heap.size) : Calls Tryd.prog 99 #[.int .i64 n, .int .i64 10] w (SomeStr 30 w) := by
  rcases hn with rfl | ⟨h0, h1⟩
  · exact format_neg w hp hg
  · obtain ⟨i, rfl⟩ := Int.eq_ofNat_of_zero_le h0
    by_cases hi : i < 100
    · exact format_small i hi w
    · exact format_pos i (by omega) (by omega) w hp hg
theorem itoa_any (n : Int) (hn : OkN n) (w : World) (hp : Pow w) (hg : 3 < w.heap.size) : Calls Tryd.prog 97 #[.int .i64 n] w (SomeStr 30 w) := by
  have hi : Calls Tryd.prog 98 #[.int .i64 n] w (SomeStr 30 w) := by
    go_enter Tryd.func98, Tryd.ntmps98
    go_wp2_with fail
    refine (format_any n hn _ hp hg).mono ?_
    rintro e w1 ⟨s, hs, rfl, hf⟩
    go_wp2_with fail
    go_ret
    exact ⟨s, hs, rfl, hf⟩
  go_enter Tryd.func97, Tryd.ntmps97
  go_wp2_with fail
  refine hi.mono ?_
  rintro e w1 ⟨s, hs, rfl, hf⟩
  go_wp2_with fail
  go_ret
  exact ⟨s, hs, rfl, hf⟩

end Go.Proofs.YthigfpaajbejdaaDoor
