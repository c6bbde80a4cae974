/-
  strconv.Itoa and an error's text: they end, and give some text that is not empty.
-/
/-
  The text of a place: it ends, and gives some text.
-/
/-
  The texts of the program's errors, and an api.Error's whole text: they end, and none is empty.
-/
import Derived.Test.YthigfpaajbejdaaGreatDoorItoa
import Derived.Test.YthigfpaajbejdaaGreatDoorAsHit
import Derived.Laws.BytesArg
import Derived.Deep.RegionHeld3
namespace Go.Proofs.YthigfpaajbejdaaGreatDoor
open Go.RowKit

theorem fmt_any (nd ab cap u : Nat) (c : Array Value) (t : TypeId) (w : World) (hn : nd ≤ 7) (hc : U8s c) (hb : Blk w ab c t) (hcap : 7 ≤ cap) (hcap2 : cap ≤ 30) (hu : u < 2097152) :
    Calls Tryz.prog 188 #[.slice (some ⟨ab, 1, none⟩) nd cap, .int .u64 u] w fun e w' => e = .returned (.tuple #[]) ∧ RU w ab t w' := by
  match nd, hn with
  | 0, _ => exact fmt_0 ab cap u c t w hc hb hcap hcap2 hu
  | 1, _ => exact fmt_1 ab cap u c t w hc hb hcap hcap2 hu
  | 2, _ => exact fmt_2 ab cap u c t w hc hb hcap hcap2 hu
  | 3, _ => exact fmt_3 ab cap u c t w hc hb hcap hcap2 hu
  | 4, _ => exact fmt_4 ab cap u c t w hc hb hcap hcap2 hu
  | 5, _ => exact fmt_5 ab cap u c t w hc hb hcap hcap2 hu
  | 6, _ => exact fmt_6 ab cap u c t w hc hb hcap hcap2 hu
  | 7, _ => exact fmt_7 ab cap u c t w hc hb hcap hcap2 hu

def zeros24 : Array Value := #[.int .u8 0, .int .u8 0, .int .u8 0, .int .u8 0, .int .u8 0, .int .u8 0, .int .u8 0, .int .u8 0, .int .u8 0, .int .u8 0, .int .u8 0, .int .u8 0, .int .u8 0, .int .u8 0, .int .u8 0, .int .u8 0, .int .u8 0, .int .u8 0, .int .u8 0, .int .u8 0, .int .u8 0, .int .u8 0, .int .u8 0, .int .u8 0]
theorem zeros24_u8 : U8s zeros24 := by
  have e : zeros24 = Array.replicate 24 (.int .u8 0) := rfl
  rw [e]
  exact ⟨by simp, fun i hi => ⟨0, by omega, by simp [hi]⟩⟩
theorem U8s.row {c : Array Value} (h : U8s c) {w : World} {b : Nat} {t : TypeId} (hb : Blk w b c t) (off n : Nat) (hn : off + n ≤ 24) :
    ∃ xs : List Int, xs.length = n ∧ ∀ i, i < n → w.cell? ⟨b, off + i, none⟩ = some (.int .u8 (xs.getD i 0)) := by
  induction n with
  | zero => exact ⟨[], rfl, fun i hi => by omega⟩
  | succ n ih =>
    obtain ⟨xs, hl, hx⟩ := ih (by omega)
    obtain ⟨v, _, hv⟩ := h.2 (off + n) (by omega)
    refine ⟨xs ++ [(v : Int)], by simp [hl], fun i hi => ?_⟩
    by_cases hin : i < n
    · rw [hx i hin]; simp [hl, hin, List.getElem?_append]
    · obtain rfl : i = n := by omega
      rw [hb.cell, hv]; simp [List.getD, List.getElem?_append, ← hl]

/-- Some text, of at most so many bytes; nothing that was there has turned. -/
def SomeStr (n : Nat) (w : World) (e : Ending) (w' : World) : Prop := ∃ s : ByteArray, s.size ≤ n ∧ e = .returned (.string s) ∧ Fr [] w w'

set_option maxRecDepth 100000 in
set_option maxHeartbeats 2000000 in
theorem format_pos (i : Nat) (h1 : 100 ≤ i) (h2 : i < 2097152) (w : World) (hp : Pow w) (hg : 3 < w.heap.size) : Calls Tryz.prog 185 #[.int .i64 i, .int .i64 10] w (SomeStr 30 w) := by
  have hb0 : Blk (w.alloc (.cells zeros24 308)) w.heap.size zeros24 308 := Blk.new w _ _
  have hp1 : Pow (w.alloc (.cells zeros24 308)) := hp.keep (Fr.alloc [] w _) (by simp)
  have hal : Tryz.prog.arrayLen 308 = 24 := by kernel_rfl
  go_enter Tryz.func185, Tryz.ntmps185
  go_wp2_with fail
  refine (numDigits_any i h2 _ hp1).mono ?_
  rintro e w1 ⟨nd, hn, rfl, rfl⟩
  have hn1 : 0 ≤ 1 + (nd : Int) := by omega
  have hn2 : 1 ≤ 1 + (nd : Int) := by omega
  have hn3 : 1 + (nd : Int) ≤ 24 := by omega
  go_wp2_with fail
  rw [show 1 + nd - 1 = nd by omega]
  refine (fmt_any nd w.heap.size 23 i zeros24 _ _ hn zeros24_u8 hb0 (by omega) (by omega) h2).mono ?_
  rintro e w2 ⟨rfl, hf, c', hc', hb'⟩
  obtain ⟨xs, hxl, hx⟩ := hc'.row hb' 1 nd (by omega)
  have hcv := run_convert_bytes_arg (P := Tryz.prog) w2 76 5 Tryz.underlying76 Tryz.underlying5 w.heap.size 1 nd 23 xs hxl hx 9 Tryz.underlying9
  have hcv' : (convert 76 9 (.slice (some ⟨w.heap.size, 1, none⟩) (1 + nd - 1) 23)).run Tryz.prog w2 = .ok (.string (strOfNums xs)) w2 := by
    rw [show 1 + nd - 1 = nd by omega]; exact hcv
  clear hx
  have hlen : (strOfNums xs).size ≤ 30 := by rw [strOfNums_size, hxl]; omega
  have hfr : Fr [] w w2 := (Fr.alloc [] w _).trans hf (fun k hk => .inr (by simp at hk; omega))
  go_wp2_with fail
  go_ret
  exact ⟨_, hlen, rfl, hfr⟩

set_option maxRecDepth 100000 in
set_option maxHeartbeats 2000000 in
theorem format_neg (w : World) (hp : Pow w) (hg : 3 < w.heap.size) : Calls Tryz.prog 185 #[.int .i64 (-1), .int .i64 10] w (SomeStr 30 w) := by
  have hb0 : Blk (w.alloc (.cells zeros24 308)) w.heap.size zeros24 308 := Blk.new w _ _
  have hp1 : Pow (w.alloc (.cells zeros24 308)) := hp.keep (Fr.alloc [] w _) (by simp)
  have hal : Tryz.prog.arrayLen 308 = 24 := by kernel_rfl
  go_enter Tryz.func185, Tryz.ntmps185
  go_wp2_with fail
  refine (numDigits_any 1 (by omega) _ hp1).mono ?_
  rintro e w1 ⟨nd, hn, rfl, rfl⟩
  have hn1 : 0 ≤ 1 + (nd : Int) := by omega
  have hn2 : 1 ≤ 1 + (nd : Int) := by omega
  have hn3 : 1 + (nd : Int) ≤ 24 := by omega
  go_wp2_with fail
  rw [show 1 + nd - 1 = nd by omega]
  refine (fmt_any nd w.heap.size 23 1 zeros24 _ _ hn zeros24_u8 hb0 (by omega) (by omega) (by omega)).mono ?_
  rintro e w2 ⟨rfl, hf, c', hc', hb'⟩
  have hb2 := hb'.set 0 (.int .u8 45)
  obtain ⟨v0, _, hv0⟩ := hc'.2 0 (by omega)
  obtain ⟨xs, hxl, hx⟩ := (hc'.set 0 45 (by omega) (by omega)).row hb2 0 (1 + nd) (by omega)
  have hcv := run_convert_bytes_arg (P := Tryz.prog) _ 76 5 Tryz.underlying76 Tryz.underlying5 w.heap.size 0 (1 + nd) 24 xs hxl hx 9 Tryz.underlying9
  clear hx hb2
  have hcell : w2.cell? ⟨w.heap.size, 0, none⟩ = some (.int .u8 v0) := by rw [hb'.cell, hv0]
  have hfz := hb'.frozen 0
  have hlen : (strOfNums xs).size ≤ 30 := by rw [strOfNums_size, hxl]; omega
  have hfr : Fr [] w w2 := (Fr.alloc [] w _).trans hf (fun k hk => .inr (by simp at hk; omega))
  go_wp2_with fail
  go_ret
  exact ⟨_, hlen, rfl, hfr.setNew _ (Nat.le_refl _)⟩

set_option maxHeartbeats 1000000 in
theorem format_small (i : Nat) (h : i < 100) (w : World) : Calls Tryz.prog 185 #[.int .i64 i, .int .i64 10] w (SomeStr 30 w) := by
  go_enter Tryz.func185, Tryz.ntmps185
  go_wp2_with fail
  refine (small_any i h _).mono ?_
  rintro e w1 ⟨⟨s, hs, rfl⟩, rfl⟩
  go_wp2_with fail
  go_ret
  exact ⟨s, hs, rfl, Fr.refl _ _⟩

/-- The numbers that are asked for as text. -/
def OkN (n : Int) : Prop := n = -1 ∨ (0 ≤ n ∧ n < 2097152)
theorem format_any (n : Int) (hn : OkN n) (w : World) (hp : Pow w) (hg : 3 < w.heap.size) : Calls Tryz.prog 185 #[.int .i64 n, .int .i64 10] w (SomeStr 30 w) := by
  rcases hn with rfl | ⟨h0, h1⟩
  · exact format_neg w hp hg
  · obtain ⟨i, rfl⟩ := Int.eq_ofNat_of_zero_le h0
    by_cases hi : i < 100
    · exact format_small i hi w
    · exact format_pos i (by omega) (by omega) w hp hg
theorem itoa_any (n : Int) (hn : OkN n) (w : World) (hp : Pow w) (hg : 3 < w.heap.size) : Calls Tryz.prog 183 #[.int .i64 n] w (SomeStr 30 w) := by
  have hi : Calls Tryz.prog 184 #[.int .i64 n] w (SomeStr 30 w) := by
    go_enter Tryz.func184, Tryz.ntmps184
    go_wp2_with fail
    refine (format_any n hn _ hp hg).mono ?_
    rintro e w1 ⟨s, hs, rfl, hf⟩
    go_wp2_with fail
    go_ret
    exact ⟨s, hs, rfl, hf⟩
  go_enter Tryz.func183, Tryz.ntmps183
  go_wp2_with fail
  refine hi.mono ?_
  rintro e w1 ⟨s, hs, rfl, hf⟩
  go_wp2_with fail
  go_ret
  exact ⟨s, hs, rfl, hf⟩

end Go.Proofs.YthigfpaajbejdaaGreatDoor
namespace Go.Proofs.YthigfpaajbejdaaGreatDoor
open Go.RowKit

theorem where_keep {w0 w1 w2 : World} {b : Nat} {u v : Value} (h : w1.cell? ⟨b, 0, none⟩ = some u ∧ w1.cell? ⟨b, 1, none⟩ = some v ∧ Fr [] w0 w1) (hf : Fr [] w1 w2) :
    w2.cell? ⟨b, 0, none⟩ = some u ∧ w2.cell? ⟨b, 1, none⟩ = some v ∧ Fr [] w0 w2 :=
  ⟨hf.cell h.1 (by simp), hf.cell h.2.1 (by simp), h.2.2.same hf⟩

theorem itoa_in {w0 W : World} {b : Nat} {u v : Value} {k : Int} (hp : Pow w0) (hg : 3 < w0.heap.size) (hk : OkN k)
    (h : W.cell? ⟨b, 0, none⟩ = some u ∧ W.cell? ⟨b, 1, none⟩ = some v ∧ Fr [] w0 W) : Calls Tryz.prog 183 #[.int .i64 k] W (SomeStr 30 W) :=
  itoa_any k hk W (hp.keep h.2.2 (by simp)) (Nat.lt_of_lt_of_le hg h.2.2.size)

theorem over1 {x : Nat} (h : x ≤ 30) : ¬ 9223372036854775807 < 8 + x := by omega
theorem over2 {x : Nat} (h : x ≤ 30) : ¬ 9223372036854775807 < 8 + x + 7 := by omega
theorem over3 {x y : Nat} (h : x ≤ 30) (h' : y ≤ 30) : ¬ 9223372036854775807 < 8 + x + 7 + y := by omega
theorem over4 {x y : Nat} (h : x ≤ 30) (h' : y ≤ 30) : ¬ 9223372036854775807 < 8 + x + 7 + y + 1 := by omega

theorem over5 {x y : Nat} (h : x ≤ 30) (h' : y ≤ 30) : ({ data := #[32, 40, 102, 114, 97, 109, 101, 32] } : ByteArray).size + x + ({ data := #[44, 32, 98, 121, 116, 101, 32] } : ByteArray).size + y + ({ data := #[41] } : ByteArray).size ≤ 100 := by
  have e : 8 + x + 7 + y + 1 ≤ 100 := by omega
  exact e
theorem over6 {x y : Nat} (h : ({ data := #[32, 40, 102, 114, 97, 109, 101, 32] } : ByteArray).size + x + ({ data := #[44, 32, 98, 121, 116, 101, 32] } : ByteArray).size + y + ({ data := #[41] } : ByteArray).size = ByteArray.empty.size) : False := by
  have e : 8 + x + 7 + y + 1 = 0 := h
  omega

set_option maxRecDepth 100000 in
set_option maxHeartbeats 2000000 in
theorem where_any (n m : Int) (hn : OkN n) (hm : OkN m) (w : World) (hp : Pow w) (hg : 3 < w.heap.size) : Calls Tryz.prog 182 #[.agg #[.int .i64 n, .int .i64 m]] w fun e w' => (∃ s : ByteArray, s.size ≤ 100 ∧ s ≠ ByteArray.empty ∧ e = .returned (.string s)) ∧ Fr [] w w' := by
  go_enter Tryz.func182, Tryz.ntmps182
  go_wp2_with fail
  have c0 : (w.alloc (.cells #[.int .i64 n, .int .i64 m] 137)).cell? ⟨w.heap.size, 0, none⟩ = some (.int .i64 n) := (Blk.new w _ _).cell 0
  have c1 : (w.alloc (.cells #[.int .i64 n, .int .i64 m] 137)).cell? ⟨w.heap.size, 1, none⟩ = some (.int .i64 m) := (Blk.new w _ _).cell 1
  have hF0 : Fr [] w (w.alloc (.cells #[.int .i64 n, .int .i64 m] 137)) := Fr.alloc [] w _
  generalize w.heap.size = b at c0 c1 ⊢
  generalize w.alloc (.cells #[.int .i64 n, .int .i64 m] 137) = w0 at *
  have hp0 : Pow w0 := hp.keep hF0 (by simp)
  have hg0 : 3 < w0.heap.size := Nat.lt_of_lt_of_le hg hF0.size
  go_region_held3 (fun w' => w'.cell? ⟨b, 0, none⟩ = some (.int .i64 n) ∧ w'.cell? ⟨b, 1, none⟩ = some (.int .i64 m) ∧ Fr [] w0 w')
    (first | exact ⟨c0, c1, Fr.drewN [] w0 1⟩ | assumption)
    (first
      | (go_at_call 183; (with_reducible refine (itoa_in hp0 hg0 hn (by assumption)).mono ?_); rintro e w1 ⟨s1, hs1, rfl, hf1⟩; have hS1 := where_keep (by assumption) hf1; have k1 : ¬ 9223372036854775807 < 8 + s1.size := over1 hs1; have k2 : ¬ 9223372036854775807 < 8 + s1.size + 7 := over2 hs1)
      | (go_at_call 183; (with_reducible refine (itoa_in hp0 hg0 hm (by assumption)).mono ?_); rintro e w2 ⟨s2, hs2, rfl, hf2⟩; have hS2 := where_keep (by assumption) hf2; have k3 : ¬ 9223372036854775807 < 8 + s1.size + 7 + s2.size := over3 hs1 hs2; have k4 : ¬ 9223372036854775807 < 8 + s1.size + 7 + s2.size + 1 := over4 hs1 hs2))
  all_goals
    go_wp2_with fail
    go_ret
    refine ⟨⟨_, ?_, ?_, rfl⟩, hF0.trans hS2.2.2 (by simp)⟩
    · simp only [ByteArray.size_append]; exact over5 hs1 hs2
    · intro h; have := congrArg ByteArray.size h; simp only [ByteArray.size_append] at this; exact over6 this
end Go.Proofs.YthigfpaajbejdaaGreatDoor
namespace Go.Proofs.YthigfpaajbejdaaGreatDoor
open Go.RowKit

/-- Some text that is not empty, of at most 100 bytes; nothing has turned. -/
def Says (w : World) (e : Ending) (w' : World) : Prop := (∃ s : ByteArray, s.size ≤ 100 ∧ s ≠ ByteArray.empty ∧ e = .returned (.string s)) ∧ w = w'
theorem lit_ne {a : Array UInt8} (h : (a.size == 0) = false) : (⟨a⟩ : ByteArray) ≠ ByteArray.empty := by
  intro e
  have h2 : a.size = 0 := congrArg ByteArray.size e
  rw [h2] at h; simp at h

set_option maxHeartbeats 1000000 in
theorem fErr_any (n : Int) (w : World) : Calls Tryz.prog 197 #[.int .i64 n] w (Says w) := by
  go_enter Tryz.func197, Tryz.ntmps197
  go_wp2_with fail
  all_goals go_ret
  all_goals exact ⟨⟨_, of_decide_eq_true rfl, lit_ne rfl, rfl⟩, rfl⟩

theorem pfErr_any (n : Int) (w : World) : Calls Tryz.prog 235 #[.int .i64 n] w (Says w) := by
  go_enter Tryz.func235, Tryz.ntmps235
  go_wp2_with fail
  all_goals go_ret
  all_goals exact ⟨⟨_, of_decide_eq_true rfl, lit_ne rfl, rfl⟩, rfl⟩

theorem f_meth (n : Int) (w : World) : (Go.method 464 138 (.int .i64 n) "Error").run Tryz.prog w = .ok (197, .int .i64 n) w := by kernel_rfl
theorem pf_meth (n : Int) (w : World) : (Go.method 464 202 (.int .i64 n) "Error").run Tryz.prog w = .ok (235, .int .i64 n) w := by kernel_rfl
theorem e_meth (a : Addr) (w : World) : (Go.method 464 135 (.pointer (some a)) "Error").run Tryz.prog w = .ok (180, .pointer (some a)) w := by kernel_rfl

/-- What stands in an api.Error's cells. -/
def ErrAt (w : World) (b : Nat) (n m : Int) (v : Value) : Prop :=
  w.cell? ⟨b, 0, none⟩ = some (.int .i64 n) ∧ w.cell? ⟨b, 1, none⟩ = some (.int .i64 m) ∧ w.cell? ⟨b, 2, none⟩ = some v
theorem ErrAt.keep {S : List Nat} {w w' : World} {b : Nat} {n m : Int} {v : Value} (h : ErrAt w b n m v) (hf : Fr S w w') (hS : b ∉ S) : ErrAt w' b n m v :=
  ⟨hf.cell h.1 hS, hf.cell h.2.1 hS, hf.cell h.2.2 hS⟩
theorem errText_keep {w0 w1 w2 : World} {b : Nat} {u v x : Value} (h : w1.cell? ⟨b, 0, none⟩ = some u ∧ w1.cell? ⟨b, 1, none⟩ = some v ∧ w1.cell? ⟨b, 2, none⟩ = some x ∧ Fr [] w0 w1) (hf : Fr [] w1 w2) :
    w2.cell? ⟨b, 0, none⟩ = some u ∧ w2.cell? ⟨b, 1, none⟩ = some v ∧ w2.cell? ⟨b, 2, none⟩ = some x ∧ Fr [] w0 w2 :=
  ⟨hf.cell h.1 (by simp), hf.cell h.2.1 (by simp), hf.cell h.2.2.1 (by simp), h.2.2.2.same hf⟩
theorem where_in {w0 W : World} {b : Nat} {u v x : Value} {n m : Int} (hp : Pow w0) (hg : 3 < w0.heap.size) (hn : OkN n) (hm : OkN m)
    (h : W.cell? ⟨b, 0, none⟩ = some u ∧ W.cell? ⟨b, 1, none⟩ = some v ∧ W.cell? ⟨b, 2, none⟩ = some x ∧ Fr [] w0 W) :
    Calls Tryz.prog 182 #[.agg #[.int .i64 n, .int .i64 m]] W fun e w' => (∃ s : ByteArray, s.size ≤ 100 ∧ s ≠ ByteArray.empty ∧ e = .returned (.string s)) ∧ Fr [] W w' :=
  where_any n m hn hm W (hp.keep h.2.2.2 (by simp)) (Nat.lt_of_lt_of_le hg h.2.2.2.size)
theorem overE {x y : Nat} (h : x ≤ 100) (h' : y ≤ 100) : ¬ 9223372036854775807 < x + y := by omega
theorem append_ne {s t : ByteArray} (h : s ≠ ByteArray.empty) : s ++ t ≠ ByteArray.empty := by
  intro e
  have h2 : (s ++ t).size = 0 := congrArg ByteArray.size e
  rw [ByteArray.size_append] at h2
  apply h
  apply ByteArray.ext
  exact Array.size_eq_zero_iff.1 (show s.data.size = 0 by have : s.data.size = s.size := rfl; omega)

set_option maxRecDepth 100000 in
set_option maxHeartbeats 2000000 in
theorem eError_f (b : Nat) (k n m : Int) (hn : OkN n) (hm : OkN m) (w : World) (hp : Pow w) (hg : 3 < w.heap.size) (he : ErrAt w b n m (.iface 138 (.int .i64 k))) :
    Calls Tryz.prog 180 #[.pointer (some ⟨b, 0, none⟩)] w fun e w' => (∃ s : ByteArray, s ≠ ByteArray.empty ∧ e = .returned (.string s)) ∧ Fr [] w w' := by
  have m1 := f_meth
  obtain ⟨c0, c1, c2⟩ := he
  go_enter Tryz.func180, Tryz.ntmps180
  go_wp2_with fail
  go_region_held3 (fun w' => w'.cell? ⟨b, 0, none⟩ = some (.int .i64 n) ∧ w'.cell? ⟨b, 1, none⟩ = some (.int .i64 m) ∧ w'.cell? ⟨b, 2, none⟩ = some (.iface 138 (.int .i64 k)) ∧ Fr [] w w')
    (first | exact ⟨c0, c1, c2, Fr.drewN [] w 1⟩ | assumption)
    (first
      | (go_at_call 197; (with_reducible refine (fErr_any k _).mono ?_); rintro e w1 ⟨⟨s1, hs1, hne1, rfl⟩, rfl⟩)
      | (go_at_call 182; (with_reducible refine (where_in hp hg hn hm (by assumption)).mono ?_); rintro e w2 ⟨⟨s2, hs2, hne2, rfl⟩, hf2⟩; have hS2 := errText_keep (by assumption) hf2; have k1 : ¬ 9223372036854775807 < s1.size + s2.size := overE hs1 hs2))
  all_goals
    go_wp2_with fail
    go_ret
    exact ⟨⟨_, append_ne hne1, rfl⟩, hS2.2.2.2⟩

set_option maxRecDepth 100000 in
set_option maxHeartbeats 2000000 in
theorem eError_p (b : Nat) (k n m : Int) (hn : OkN n) (hm : OkN m) (w : World) (hp : Pow w) (hg : 3 < w.heap.size) (he : ErrAt w b n m (.iface 202 (.int .i64 k))) :
    Calls Tryz.prog 180 #[.pointer (some ⟨b, 0, none⟩)] w fun e w' => (∃ s : ByteArray, s ≠ ByteArray.empty ∧ e = .returned (.string s)) ∧ Fr [] w w' := by
  have m1 := pf_meth
  obtain ⟨c0, c1, c2⟩ := he
  go_enter Tryz.func180, Tryz.ntmps180
  go_wp2_with fail
  go_region_held3 (fun w' => w'.cell? ⟨b, 0, none⟩ = some (.int .i64 n) ∧ w'.cell? ⟨b, 1, none⟩ = some (.int .i64 m) ∧ w'.cell? ⟨b, 2, none⟩ = some (.iface 202 (.int .i64 k)) ∧ Fr [] w w')
    (first | exact ⟨c0, c1, c2, Fr.drewN [] w 1⟩ | assumption)
    (first
      | (go_at_call 235; (with_reducible refine (pfErr_any k _).mono ?_); rintro e w1 ⟨⟨s1, hs1, hne1, rfl⟩, rfl⟩)
      | (go_at_call 182; (with_reducible refine (where_in hp hg hn hm (by assumption)).mono ?_); rintro e w2 ⟨⟨s2, hs2, hne2, rfl⟩, hf2⟩; have hS2 := errText_keep (by assumption) hf2; have k1 : ¬ 9223372036854775807 < s1.size + s2.size := overE hs1 hs2))
  all_goals
    go_wp2_with fail
    go_ret
    exact ⟨⟨_, append_ne hne1, rfl⟩, hS2.2.2.2⟩

end Go.Proofs.YthigfpaajbejdaaGreatDoor
