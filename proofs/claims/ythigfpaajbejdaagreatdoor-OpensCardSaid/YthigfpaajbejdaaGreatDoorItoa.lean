/-
  strconv.Itoa at small numbers: it ends, and gives some text.
-/
import Derived.Test.YthigfpaajbejdaaGreatDoorText
import Derived.Deep.DeepCutAuto
namespace Go.Proofs.YthigfpaajbejdaaGreatDoor
open Go.RowKit

/-- The table of powers, whatever it holds. -/
def Pow (w : World) : Prop := ∀ i, i < 20 → ∃ v : Nat, w.cell? ⟨3, i, none⟩ = some (.int .u64 v)
theorem Pow.keep {S : List Nat} {w w' : World} (h : Pow w) (hf : Fr S w w') (hS : 3 ∉ S) : Pow w' := fun i hi => by
  obtain ⟨v, hv⟩ := h i hi
  exact ⟨v, hf.cell hv hS⟩

theorem bool2_any (b : Bool) (w : World) : Calls Tryz.prog 192 #[.bool b] w fun e w' => e = .returned (.int .i64 ((if b then 1 else 0 : Nat))) ∧ w = w' := by
  cases b
  · go_enter Tryz.func192, Tryz.ntmps192
    go_wp2
    go_ret
    exact ⟨rfl, rfl⟩
  · go_enter Tryz.func192, Tryz.ntmps192
    go_wp2
    go_ret
    exact ⟨rfl, rfl⟩
theorem log10_any (x : Nat) (h : x ≤ 64) (w : World) : Calls Tryz.prog 190 #[.int .i64 x] w fun e w' => e = .returned (.int .i64 ((x * 78913 / 262144 : Nat))) ∧ w = w' := by
  go_enter Tryz.func190, Tryz.ntmps190
  go_wp2
  go_ret
  exact ⟨rfl, rfl⟩

theorem wrap64_nat {x : Int} {n : Nat} (h : x = n) (hn : n ≤ 9223372036854775807) : wrap64 x = n := by
  subst h; exact IntWalk.wrap64_in _ ⟨by omega, by omega⟩
def Digits (w : World) (e : Ending) (w' : World) : Prop := ∃ nd : Nat, nd ≤ 7 ∧ e = .returned (.int .i64 nd) ∧ w = w'
set_option maxHeartbeats 400000 in
theorem numDigits_any (u : Nat) (h : u < 2097152) (w : World) (hp : Pow w) : Calls Tryz.prog 187 #[.int .u64 u] w (Digits w) := by
  have hb : blen u ≤ 21 := blen_le_of_lt (k := 21) h
  have hn : blen u * 78913 / 262144 ≤ 6 := by omega
  obtain ⟨v, hv⟩ := hp (blen u * 78913 / 262144) (by omega)
  go_enter Tryz.func187, Tryz.ntmps187
  go_wp2_with (first
    | (go_at_call 191; refine (len64_any _ (by omega) _).mono ?_; rintro e w' ⟨rfl, rfl⟩)
    | (go_at_call 190; refine (log10_any _ (by omega) _).mono ?_; rintro e w' ⟨rfl, rfl⟩)
    | (go_at_call 192; refine (bool2_any _ _).mono ?_; rintro e w' ⟨rfl, rfl⟩))
  all_goals go_ret
  · exact ⟨blen u * 78913 / 262144 + 1, by omega, congrArg (fun z => Ending.returned (.int .i64 z)) (wrap64_nat (by omega) (by omega)), rfl⟩
  · exact ⟨blen u * 78913 / 262144, by omega, congrArg (fun z => Ending.returned (.int .i64 z)) (wrap64_nat (by omega) (by omega)), rfl⟩

set_option maxRecDepth 100000 in
set_option maxHeartbeats 1000000 in
theorem small_any (i : Nat) (h : i < 100) (w : World) : Calls Tryz.prog 186 #[.int .i64 i] w fun e w' => (∃ s : ByteArray, s.size ≤ 30 ∧ e = .returned (.string s)) ∧ w = w' := by
  go_enter Tryz.func186, Tryz.ntmps186
  go_wp2
  all_goals go_ret
  all_goals exact ⟨⟨_, by simp only [ByteArray.size_extract]; omega, rfl⟩, rfl⟩

/-- Twenty-four bytes. -/
def U8s (c : Array Value) : Prop := c.size = 24 ∧ ∀ i, i < 24 → ∃ v : Nat, v < 256 ∧ c[i]? = some (.int .u8 v)
theorem U8s.set {c : Array Value} (h : U8s c) (i : Nat) (v : Int) (h0 : 0 ≤ v) (h1 : v < 256) : U8s (c.setIfInBounds i (.int .u8 v)) := by
  refine ⟨by simp [h.1], fun j hj => ?_⟩
  by_cases hij : i = j
  · subst hij
    refine ⟨v.toNat, by omega, ?_⟩
    rw [Array.getElem?_setIfInBounds_self_of_lt (by rw [h.1]; exact hj), show ((v.toNat : Nat) : Int) = v by omega]
  · rw [Array.getElem?_setIfInBounds_ne hij]
    exact h.2 j hj

/-- What formatBase10 does to the block: bytes are bytes. -/
def RU (w : World) (ab : Nat) (t : TypeId) (wx : World) : Prop := Fr [ab] w wx ∧ ∃ c', U8s c' ∧ Blk wx ab c' t
theorem RU.refl {w : World} {ab : Nat} {c : Array Value} {t : TypeId} (hc : U8s c) (hb : Blk w ab c t) : RU w ab t w := ⟨Fr.refl _ _, c, hc, hb⟩
theorem RU.set {w wx : World} {ab : Nat} {t : TypeId} (h : RU w ab t wx) (i : Nat) (v : Int) (h0 : 0 ≤ v) (h1 : v < 256) : RU w ab t (wx.setCell ⟨ab, i, none⟩ (.int .u8 v)) := by
  obtain ⟨hf, c, hc, hb⟩ := h
  exact ⟨hf.set' _ (by simp), _, hc.set i v h0 h1, hb.set i _⟩
theorem RU.setB {w wx : World} {ab : Nat} {t : TypeId} (h : RU w ab t wx) (i : Nat) (v : UInt8) : RU w ab t (wx.setCell ⟨ab, i, none⟩ (.int .u8 v.toNat)) :=
  h.set i _ (by omega) (by have := v.toNat_lt; omega)
theorem RU.setW {w wx : World} {ab : Nat} {t : TypeId} (h : RU w ab t wx) (i : Nat) (v : Int) : RU w ab t (wx.setCell ⟨ab, i, none⟩ (.int .u8 (IntKind.u8.wrap v))) :=
  h.set i _ (by rw [IntKind.wrap_u8]; omega) (by rw [IntKind.wrap_u8]; omega)
theorem RU.drewN {w wx : World} {ab : Nat} {t : TypeId} (h : RU w ab t wx) (n : Nat) : RU w ab t (wx.drewN n) := by
  obtain ⟨hf, c, hc, hb⟩ := h
  exact ⟨hf.drewN' n, c, hc, hb.drewN n⟩
theorem RU.drew {w wx : World} {ab : Nat} {t : TypeId} (h : RU w ab t wx) : RU w ab t wx.drew := h.drewN 1

set_option maxRecDepth 100000 in
set_option maxHeartbeats 4000000 in
theorem fmt_0 (ab cap u : Nat) (c : Array Value) (t : TypeId) (w : World) (hc : U8s c) (hb : Blk w ab c t) (hcap : 7 ≤ cap) (hcap2 : cap ≤ 30) (hu : u < 2097152) :
    Calls Tryz.prog 188 #[.slice (some ⟨ab, 1, none⟩) 0 cap, .int .u64 u] w fun e w' => e = .returned (.tuple #[]) ∧ RU w ab t w' := by
  have HRU := RU.refl hc hb
  have c1 := hb.cell
  have f1 := hb.frozen
  go_enter Tryz.func188, Tryz.ntmps188
  go_wp2
  refine wp_loop_rounds 1 ?_
  rw [rounds_succ]
  go_wp2
  go_end0
  exact ⟨rfl, by (repeat (first | exact HRU | refine RU.setW ?_ _ _ | refine RU.set ?_ _ _ (by omega) (by omega) | refine RU.drew ?_ | refine RU.drewN ?_ _))⟩

set_option maxRecDepth 100000 in
set_option maxHeartbeats 4000000 in
theorem fmt_1 (ab cap u : Nat) (c : Array Value) (t : TypeId) (w : World) (hc : U8s c) (hb : Blk w ab c t) (hcap : 7 ≤ cap) (hcap2 : cap ≤ 30) (hu : u < 2097152) :
    Calls Tryz.prog 188 #[.slice (some ⟨ab, 1, none⟩) 1 cap, .int .u64 u] w fun e w' => e = .returned (.tuple #[]) ∧ RU w ab t w' := by
  have HRU := RU.refl hc hb
  obtain ⟨v1, l1, k1⟩ := hc.2 1 (by omega)
  have c1 := hb.cell
  have f1 := hb.frozen
  go_enter Tryz.func188, Tryz.ntmps188
  go_wp2
  refine wp_loop_rounds 1 ?_
  rw [rounds_succ]
  go_wp2
  go_end0
  exact ⟨rfl, by (repeat (first | exact HRU | refine RU.setW ?_ _ _ | refine RU.set ?_ _ _ (by omega) (by omega) | refine RU.drew ?_ | refine RU.drewN ?_ _))⟩

set_option maxRecDepth 100000 in
set_option maxHeartbeats 4000000 in
theorem fmt_2 (ab cap u : Nat) (c : Array Value) (t : TypeId) (w : World) (hc : U8s c) (hb : Blk w ab c t) (hcap : 7 ≤ cap) (hcap2 : cap ≤ 30) (hu : u < 2097152) :
    Calls Tryz.prog 188 #[.slice (some ⟨ab, 1, none⟩) 2 cap, .int .u64 u] w fun e w' => e = .returned (.tuple #[]) ∧ RU w ab t w' := by
  have HRU := RU.refl hc hb
  obtain ⟨v1, l1, k1⟩ := hc.2 1 (by omega)
  obtain ⟨v2, l2, k2⟩ := hc.2 2 (by omega)
  have c1 := hb.cell
  have f1 := hb.frozen
  go_enter Tryz.func188, Tryz.ntmps188
  go_wp2
  refine wp_loop_rounds 1 ?_
  rw [rounds_succ]
  go_upto_region 23 with fail
  obtain ⟨b, hbv, h0, h1⟩ : ∃ b : Int, (u : Int) % 100 * 2 = b ∧ 0 ≤ b ∧ b ≤ 198 := ⟨_, rfl, by omega, by omega⟩
  simp only [hbv]
  have w1 : IntKind.u32.wrap (b + 1) = b + 1 := IntWalk.u32_in _ ⟨by omega, by omega⟩
  have w2 : 0 ≤ b + 1 := by omega
  have w3 : b + 1 < 200 := by omega
  have w4 : b < 200 := by omega
  clear hbv h1
  go_cut [] (RU w ab t)
  case first =>
    go_region
    all_goals
      go_wp2_with fail
      go_meet
      case rel => (repeat (first | exact HRU | refine RU.setB ?_ _ _ | refine RU.drew ?_ | refine RU.drewN ?_ _))
  case rest =>
  have HRU := hcut
  obtain ⟨hf, c, hc, hb⟩ := hcut
  clear w1 w2 w3 w4
  obtain ⟨v1, l1, k1⟩ := hc.2 1 (by omega)
  obtain ⟨v2, l2, k2⟩ := hc.2 2 (by omega)
  have c1 := hb.cell
  have f1 := hb.frozen
  go_wp2
  go_end0
  exact ⟨rfl, by (repeat (first | exact HRU | refine RU.setW ?_ _ _ | refine RU.set ?_ _ _ (by omega) (by omega) | refine RU.drew ?_ | refine RU.drewN ?_ _))⟩

set_option maxRecDepth 100000 in
set_option maxHeartbeats 4000000 in
theorem fmt_3 (ab cap u : Nat) (c : Array Value) (t : TypeId) (w : World) (hc : U8s c) (hb : Blk w ab c t) (hcap : 7 ≤ cap) (hcap2 : cap ≤ 30) (hu : u < 2097152) :
    Calls Tryz.prog 188 #[.slice (some ⟨ab, 1, none⟩) 3 cap, .int .u64 u] w fun e w' => e = .returned (.tuple #[]) ∧ RU w ab t w' := by
  have HRU := RU.refl hc hb
  obtain ⟨v1, l1, k1⟩ := hc.2 1 (by omega)
  obtain ⟨v2, l2, k2⟩ := hc.2 2 (by omega)
  obtain ⟨v3, l3, k3⟩ := hc.2 3 (by omega)
  have c1 := hb.cell
  have f1 := hb.frozen
  go_enter Tryz.func188, Tryz.ntmps188
  go_wp2
  refine wp_loop_rounds 1 ?_
  rw [rounds_succ]
  go_upto_region 23 with fail
  obtain ⟨b, hbv, h0, h1⟩ : ∃ b : Int, (u : Int) % 100 * 2 = b ∧ 0 ≤ b ∧ b ≤ 198 := ⟨_, rfl, by omega, by omega⟩
  simp only [hbv]
  have w1 : IntKind.u32.wrap (b + 1) = b + 1 := IntWalk.u32_in _ ⟨by omega, by omega⟩
  have w2 : 0 ≤ b + 1 := by omega
  have w3 : b + 1 < 200 := by omega
  have w4 : b < 200 := by omega
  clear hbv h1
  go_cut [] (RU w ab t)
  case first =>
    go_region
    all_goals
      go_wp2_with fail
      go_meet
      case rel => (repeat (first | exact HRU | refine RU.setB ?_ _ _ | refine RU.drew ?_ | refine RU.drewN ?_ _))
  case rest =>
  have HRU := hcut
  obtain ⟨hf, c, hc, hb⟩ := hcut
  clear w1 w2 w3 w4
  obtain ⟨v1, l1, k1⟩ := hc.2 1 (by omega)
  obtain ⟨v2, l2, k2⟩ := hc.2 2 (by omega)
  obtain ⟨v3, l3, k3⟩ := hc.2 3 (by omega)
  have c1 := hb.cell
  have f1 := hb.frozen
  go_wp2
  go_end0
  exact ⟨rfl, by (repeat (first | exact HRU | refine RU.setW ?_ _ _ | refine RU.set ?_ _ _ (by omega) (by omega) | refine RU.drew ?_ | refine RU.drewN ?_ _))⟩

set_option maxRecDepth 100000 in
set_option maxHeartbeats 4000000 in
theorem fmt_4 (ab cap u : Nat) (c : Array Value) (t : TypeId) (w : World) (hc : U8s c) (hb : Blk w ab c t) (hcap : 7 ≤ cap) (hcap2 : cap ≤ 30) (hu : u < 2097152) :
    Calls Tryz.prog 188 #[.slice (some ⟨ab, 1, none⟩) 4 cap, .int .u64 u] w fun e w' => e = .returned (.tuple #[]) ∧ RU w ab t w' := by
  have HRU := RU.refl hc hb
  obtain ⟨v1, l1, k1⟩ := hc.2 1 (by omega)
  obtain ⟨v2, l2, k2⟩ := hc.2 2 (by omega)
  obtain ⟨v3, l3, k3⟩ := hc.2 3 (by omega)
  obtain ⟨v4, l4, k4⟩ := hc.2 4 (by omega)
  have c1 := hb.cell
  have f1 := hb.frozen
  go_enter Tryz.func188, Tryz.ntmps188
  go_wp2
  refine wp_loop_rounds 1 ?_
  rw [rounds_succ]
  go_upto_region 17 with fail
  obtain ⟨b, hbv, h0, h1⟩ : ∃ b : Int, (u : Int) % 100 * 2 = b ∧ 0 ≤ b ∧ b ≤ 198 := ⟨_, rfl, by omega, by omega⟩
  simp only [hbv]
  have w1 : IntKind.u32.wrap (b + 1) = b + 1 := IntWalk.u32_in _ ⟨by omega, by omega⟩
  have w2 : 0 ≤ b + 1 := by omega
  have w3 : b + 1 < 200 := by omega
  have w4 : b < 200 := by omega
  clear hbv h1
  go_cut [] (RU w ab t)
  case first =>
    go_region
    all_goals
      go_wp2_with fail
      go_meet
      case rel => (repeat (first | exact HRU | refine RU.setB ?_ _ _ | refine RU.drew ?_ | refine RU.drewN ?_ _))
  case rest =>
  have HRU := hcut
  obtain ⟨hf, c, hc, hb⟩ := hcut
  clear w1 w2 w3 w4
  obtain ⟨v1, l1, k1⟩ := hc.2 1 (by omega)
  obtain ⟨v2, l2, k2⟩ := hc.2 2 (by omega)
  obtain ⟨v3, l3, k3⟩ := hc.2 3 (by omega)
  obtain ⟨v4, l4, k4⟩ := hc.2 4 (by omega)
  have c1 := hb.cell
  have f1 := hb.frozen
  go_upto_region 18 with fail
  obtain ⟨b, hbv, h0, h1⟩ : ∃ b : Int, (u : Int) % 10000 / 100 * 2 = b ∧ 0 ≤ b ∧ b ≤ 198 := ⟨_, rfl, by omega, by omega⟩
  simp only [hbv]
  have w1 : IntKind.u32.wrap (b + 1) = b + 1 := IntWalk.u32_in _ ⟨by omega, by omega⟩
  have w2 : 0 ≤ b + 1 := by omega
  have w3 : b + 1 < 200 := by omega
  have w4 : b < 200 := by omega
  clear hbv h1
  go_cut [] (RU w ab t)
  case first =>
    go_region
    all_goals
      go_wp2_with fail
      go_meet
      case rel => (repeat (first | exact HRU | refine RU.setB ?_ _ _ | refine RU.drew ?_ | refine RU.drewN ?_ _))
  case rest =>
  have HRU := hcut
  obtain ⟨hf, c, hc, hb⟩ := hcut
  clear w1 w2 w3 w4
  obtain ⟨v1, l1, k1⟩ := hc.2 1 (by omega)
  obtain ⟨v2, l2, k2⟩ := hc.2 2 (by omega)
  obtain ⟨v3, l3, k3⟩ := hc.2 3 (by omega)
  obtain ⟨v4, l4, k4⟩ := hc.2 4 (by omega)
  have c1 := hb.cell
  have f1 := hb.frozen
  go_wp2
  go_end0
  exact ⟨rfl, by (repeat (first | exact HRU | refine RU.setW ?_ _ _ | refine RU.set ?_ _ _ (by omega) (by omega) | refine RU.drew ?_ | refine RU.drewN ?_ _))⟩

set_option maxRecDepth 100000 in
set_option maxHeartbeats 4000000 in
theorem fmt_5 (ab cap u : Nat) (c : Array Value) (t : TypeId) (w : World) (hc : U8s c) (hb : Blk w ab c t) (hcap : 7 ≤ cap) (hcap2 : cap ≤ 30) (hu : u < 2097152) :
    Calls Tryz.prog 188 #[.slice (some ⟨ab, 1, none⟩) 5 cap, .int .u64 u] w fun e w' => e = .returned (.tuple #[]) ∧ RU w ab t w' := by
  have HRU := RU.refl hc hb
  obtain ⟨v1, l1, k1⟩ := hc.2 1 (by omega)
  obtain ⟨v2, l2, k2⟩ := hc.2 2 (by omega)
  obtain ⟨v3, l3, k3⟩ := hc.2 3 (by omega)
  obtain ⟨v4, l4, k4⟩ := hc.2 4 (by omega)
  obtain ⟨v5, l5, k5⟩ := hc.2 5 (by omega)
  have c1 := hb.cell
  have f1 := hb.frozen
  go_enter Tryz.func188, Tryz.ntmps188
  go_wp2
  refine wp_loop_rounds 1 ?_
  rw [rounds_succ]
  go_upto_region 17 with fail
  obtain ⟨b, hbv, h0, h1⟩ : ∃ b : Int, (u : Int) % 100 * 2 = b ∧ 0 ≤ b ∧ b ≤ 198 := ⟨_, rfl, by omega, by omega⟩
  simp only [hbv]
  have w1 : IntKind.u32.wrap (b + 1) = b + 1 := IntWalk.u32_in _ ⟨by omega, by omega⟩
  have w2 : 0 ≤ b + 1 := by omega
  have w3 : b + 1 < 200 := by omega
  have w4 : b < 200 := by omega
  clear hbv h1
  go_cut [] (RU w ab t)
  case first =>
    go_region
    all_goals
      go_wp2_with fail
      go_meet
      case rel => (repeat (first | exact HRU | refine RU.setB ?_ _ _ | refine RU.drew ?_ | refine RU.drewN ?_ _))
  case rest =>
  have HRU := hcut
  obtain ⟨hf, c, hc, hb⟩ := hcut
  clear w1 w2 w3 w4
  obtain ⟨v1, l1, k1⟩ := hc.2 1 (by omega)
  obtain ⟨v2, l2, k2⟩ := hc.2 2 (by omega)
  obtain ⟨v3, l3, k3⟩ := hc.2 3 (by omega)
  obtain ⟨v4, l4, k4⟩ := hc.2 4 (by omega)
  obtain ⟨v5, l5, k5⟩ := hc.2 5 (by omega)
  have c1 := hb.cell
  have f1 := hb.frozen
  go_upto_region 18 with fail
  obtain ⟨b, hbv, h0, h1⟩ : ∃ b : Int, (u : Int) % 10000 / 100 * 2 = b ∧ 0 ≤ b ∧ b ≤ 198 := ⟨_, rfl, by omega, by omega⟩
  simp only [hbv]
  have w1 : IntKind.u32.wrap (b + 1) = b + 1 := IntWalk.u32_in _ ⟨by omega, by omega⟩
  have w2 : 0 ≤ b + 1 := by omega
  have w3 : b + 1 < 200 := by omega
  have w4 : b < 200 := by omega
  clear hbv h1
  go_cut [] (RU w ab t)
  case first =>
    go_region
    all_goals
      go_wp2_with fail
      go_meet
      case rel => (repeat (first | exact HRU | refine RU.setB ?_ _ _ | refine RU.drew ?_ | refine RU.drewN ?_ _))
  case rest =>
  have HRU := hcut
  obtain ⟨hf, c, hc, hb⟩ := hcut
  clear w1 w2 w3 w4
  obtain ⟨v1, l1, k1⟩ := hc.2 1 (by omega)
  obtain ⟨v2, l2, k2⟩ := hc.2 2 (by omega)
  obtain ⟨v3, l3, k3⟩ := hc.2 3 (by omega)
  obtain ⟨v4, l4, k4⟩ := hc.2 4 (by omega)
  obtain ⟨v5, l5, k5⟩ := hc.2 5 (by omega)
  have c1 := hb.cell
  have f1 := hb.frozen
  go_wp2
  go_end0
  exact ⟨rfl, by (repeat (first | exact HRU | refine RU.setW ?_ _ _ | refine RU.set ?_ _ _ (by omega) (by omega) | refine RU.drew ?_ | refine RU.drewN ?_ _))⟩

set_option maxRecDepth 100000 in
set_option maxHeartbeats 4000000 in
theorem fmt_6 (ab cap u : Nat) (c : Array Value) (t : TypeId) (w : World) (hc : U8s c) (hb : Blk w ab c t) (hcap : 7 ≤ cap) (hcap2 : cap ≤ 30) (hu : u < 2097152) :
    Calls Tryz.prog 188 #[.slice (some ⟨ab, 1, none⟩) 6 cap, .int .u64 u] w fun e w' => e = .returned (.tuple #[]) ∧ RU w ab t w' := by
  have HRU := RU.refl hc hb
  obtain ⟨v1, l1, k1⟩ := hc.2 1 (by omega)
  obtain ⟨v2, l2, k2⟩ := hc.2 2 (by omega)
  obtain ⟨v3, l3, k3⟩ := hc.2 3 (by omega)
  obtain ⟨v4, l4, k4⟩ := hc.2 4 (by omega)
  obtain ⟨v5, l5, k5⟩ := hc.2 5 (by omega)
  obtain ⟨v6, l6, k6⟩ := hc.2 6 (by omega)
  have c1 := hb.cell
  have f1 := hb.frozen
  go_enter Tryz.func188, Tryz.ntmps188
  go_wp2
  refine wp_loop_rounds 1 ?_
  rw [rounds_succ]
  go_upto_region 17 with fail
  obtain ⟨b, hbv, h0, h1⟩ : ∃ b : Int, (u : Int) % 100 * 2 = b ∧ 0 ≤ b ∧ b ≤ 198 := ⟨_, rfl, by omega, by omega⟩
  simp only [hbv]
  have w1 : IntKind.u32.wrap (b + 1) = b + 1 := IntWalk.u32_in _ ⟨by omega, by omega⟩
  have w2 : 0 ≤ b + 1 := by omega
  have w3 : b + 1 < 200 := by omega
  have w4 : b < 200 := by omega
  clear hbv h1
  go_cut [] (RU w ab t)
  case first =>
    go_region
    all_goals
      go_wp2_with fail
      go_meet
      case rel => (repeat (first | exact HRU | refine RU.setB ?_ _ _ | refine RU.drew ?_ | refine RU.drewN ?_ _))
  case rest =>
  have HRU := hcut
  obtain ⟨hf, c, hc, hb⟩ := hcut
  clear w1 w2 w3 w4
  obtain ⟨v1, l1, k1⟩ := hc.2 1 (by omega)
  obtain ⟨v2, l2, k2⟩ := hc.2 2 (by omega)
  obtain ⟨v3, l3, k3⟩ := hc.2 3 (by omega)
  obtain ⟨v4, l4, k4⟩ := hc.2 4 (by omega)
  obtain ⟨v5, l5, k5⟩ := hc.2 5 (by omega)
  obtain ⟨v6, l6, k6⟩ := hc.2 6 (by omega)
  have c1 := hb.cell
  have f1 := hb.frozen
  go_upto_region 18 with fail
  obtain ⟨b, hbv, h0, h1⟩ : ∃ b : Int, (u : Int) % 10000 / 100 * 2 = b ∧ 0 ≤ b ∧ b ≤ 198 := ⟨_, rfl, by omega, by omega⟩
  simp only [hbv]
  have w1 : IntKind.u32.wrap (b + 1) = b + 1 := IntWalk.u32_in _ ⟨by omega, by omega⟩
  have w2 : 0 ≤ b + 1 := by omega
  have w3 : b + 1 < 200 := by omega
  have w4 : b < 200 := by omega
  clear hbv h1
  go_cut [] (RU w ab t)
  case first =>
    go_region
    all_goals
      go_wp2_with fail
      go_meet
      case rel => (repeat (first | exact HRU | refine RU.setB ?_ _ _ | refine RU.drew ?_ | refine RU.drewN ?_ _))
  case rest =>
  have HRU := hcut
  obtain ⟨hf, c, hc, hb⟩ := hcut
  clear w1 w2 w3 w4
  obtain ⟨v1, l1, k1⟩ := hc.2 1 (by omega)
  obtain ⟨v2, l2, k2⟩ := hc.2 2 (by omega)
  obtain ⟨v3, l3, k3⟩ := hc.2 3 (by omega)
  obtain ⟨v4, l4, k4⟩ := hc.2 4 (by omega)
  obtain ⟨v5, l5, k5⟩ := hc.2 5 (by omega)
  obtain ⟨v6, l6, k6⟩ := hc.2 6 (by omega)
  have c1 := hb.cell
  have f1 := hb.frozen
  go_upto_region 23 with fail
  obtain ⟨b, hbv, h0, h1⟩ : ∃ b : Int, (u : Int) / 10000 % 100 * 2 = b ∧ 0 ≤ b ∧ b ≤ 198 := ⟨_, rfl, by omega, by omega⟩
  simp only [hbv]
  have w1 : IntKind.u32.wrap (b + 1) = b + 1 := IntWalk.u32_in _ ⟨by omega, by omega⟩
  have w2 : 0 ≤ b + 1 := by omega
  have w3 : b + 1 < 200 := by omega
  have w4 : b < 200 := by omega
  clear hbv h1
  go_cut [] (RU w ab t)
  case first =>
    go_region
    all_goals
      go_wp2_with fail
      go_meet
      case rel => (repeat (first | exact HRU | refine RU.setB ?_ _ _ | refine RU.drew ?_ | refine RU.drewN ?_ _))
  case rest =>
  have HRU := hcut
  obtain ⟨hf, c, hc, hb⟩ := hcut
  clear w1 w2 w3 w4
  obtain ⟨v1, l1, k1⟩ := hc.2 1 (by omega)
  obtain ⟨v2, l2, k2⟩ := hc.2 2 (by omega)
  obtain ⟨v3, l3, k3⟩ := hc.2 3 (by omega)
  obtain ⟨v4, l4, k4⟩ := hc.2 4 (by omega)
  obtain ⟨v5, l5, k5⟩ := hc.2 5 (by omega)
  obtain ⟨v6, l6, k6⟩ := hc.2 6 (by omega)
  have c1 := hb.cell
  have f1 := hb.frozen
  go_wp2
  go_end0
  exact ⟨rfl, by (repeat (first | exact HRU | refine RU.setW ?_ _ _ | refine RU.set ?_ _ _ (by omega) (by omega) | refine RU.drew ?_ | refine RU.drewN ?_ _))⟩

set_option maxRecDepth 100000 in
set_option maxHeartbeats 4000000 in
theorem fmt_7 (ab cap u : Nat) (c : Array Value) (t : TypeId) (w : World) (hc : U8s c) (hb : Blk w ab c t) (hcap : 7 ≤ cap) (hcap2 : cap ≤ 30) (hu : u < 2097152) :
    Calls Tryz.prog 188 #[.slice (some ⟨ab, 1, none⟩) 7 cap, .int .u64 u] w fun e w' => e = .returned (.tuple #[]) ∧ RU w ab t w' := by
  have HRU := RU.refl hc hb
  obtain ⟨v1, l1, k1⟩ := hc.2 1 (by omega)
  obtain ⟨v2, l2, k2⟩ := hc.2 2 (by omega)
  obtain ⟨v3, l3, k3⟩ := hc.2 3 (by omega)
  obtain ⟨v4, l4, k4⟩ := hc.2 4 (by omega)
  obtain ⟨v5, l5, k5⟩ := hc.2 5 (by omega)
  obtain ⟨v6, l6, k6⟩ := hc.2 6 (by omega)
  obtain ⟨v7, l7, k7⟩ := hc.2 7 (by omega)
  have c1 := hb.cell
  have f1 := hb.frozen
  go_enter Tryz.func188, Tryz.ntmps188
  go_wp2
  refine wp_loop_rounds 1 ?_
  rw [rounds_succ]
  go_upto_region 17 with fail
  obtain ⟨b, hbv, h0, h1⟩ : ∃ b : Int, (u : Int) % 100 * 2 = b ∧ 0 ≤ b ∧ b ≤ 198 := ⟨_, rfl, by omega, by omega⟩
  simp only [hbv]
  have w1 : IntKind.u32.wrap (b + 1) = b + 1 := IntWalk.u32_in _ ⟨by omega, by omega⟩
  have w2 : 0 ≤ b + 1 := by omega
  have w3 : b + 1 < 200 := by omega
  have w4 : b < 200 := by omega
  clear hbv h1
  go_cut [] (RU w ab t)
  case first =>
    go_region
    all_goals
      go_wp2_with fail
      go_meet
      case rel => (repeat (first | exact HRU | refine RU.setB ?_ _ _ | refine RU.drew ?_ | refine RU.drewN ?_ _))
  case rest =>
  have HRU := hcut
  obtain ⟨hf, c, hc, hb⟩ := hcut
  clear w1 w2 w3 w4
  obtain ⟨v1, l1, k1⟩ := hc.2 1 (by omega)
  obtain ⟨v2, l2, k2⟩ := hc.2 2 (by omega)
  obtain ⟨v3, l3, k3⟩ := hc.2 3 (by omega)
  obtain ⟨v4, l4, k4⟩ := hc.2 4 (by omega)
  obtain ⟨v5, l5, k5⟩ := hc.2 5 (by omega)
  obtain ⟨v6, l6, k6⟩ := hc.2 6 (by omega)
  obtain ⟨v7, l7, k7⟩ := hc.2 7 (by omega)
  have c1 := hb.cell
  have f1 := hb.frozen
  go_upto_region 18 with fail
  obtain ⟨b, hbv, h0, h1⟩ : ∃ b : Int, (u : Int) % 10000 / 100 * 2 = b ∧ 0 ≤ b ∧ b ≤ 198 := ⟨_, rfl, by omega, by omega⟩
  simp only [hbv]
  have w1 : IntKind.u32.wrap (b + 1) = b + 1 := IntWalk.u32_in _ ⟨by omega, by omega⟩
  have w2 : 0 ≤ b + 1 := by omega
  have w3 : b + 1 < 200 := by omega
  have w4 : b < 200 := by omega
  clear hbv h1
  go_cut [] (RU w ab t)
  case first =>
    go_region
    all_goals
      go_wp2_with fail
      go_meet
      case rel => (repeat (first | exact HRU | refine RU.setB ?_ _ _ | refine RU.drew ?_ | refine RU.drewN ?_ _))
  case rest =>
  have HRU := hcut
  obtain ⟨hf, c, hc, hb⟩ := hcut
  clear w1 w2 w3 w4
  obtain ⟨v1, l1, k1⟩ := hc.2 1 (by omega)
  obtain ⟨v2, l2, k2⟩ := hc.2 2 (by omega)
  obtain ⟨v3, l3, k3⟩ := hc.2 3 (by omega)
  obtain ⟨v4, l4, k4⟩ := hc.2 4 (by omega)
  obtain ⟨v5, l5, k5⟩ := hc.2 5 (by omega)
  obtain ⟨v6, l6, k6⟩ := hc.2 6 (by omega)
  obtain ⟨v7, l7, k7⟩ := hc.2 7 (by omega)
  have c1 := hb.cell
  have f1 := hb.frozen
  go_upto_region 23 with fail
  obtain ⟨b, hbv, h0, h1⟩ : ∃ b : Int, (u : Int) / 10000 % 100 * 2 = b ∧ 0 ≤ b ∧ b ≤ 198 := ⟨_, rfl, by omega, by omega⟩
  simp only [hbv]
  have w1 : IntKind.u32.wrap (b + 1) = b + 1 := IntWalk.u32_in _ ⟨by omega, by omega⟩
  have w2 : 0 ≤ b + 1 := by omega
  have w3 : b + 1 < 200 := by omega
  have w4 : b < 200 := by omega
  clear hbv h1
  go_cut [] (RU w ab t)
  case first =>
    go_region
    all_goals
      go_wp2_with fail
      go_meet
      case rel => (repeat (first | exact HRU | refine RU.setB ?_ _ _ | refine RU.drew ?_ | refine RU.drewN ?_ _))
  case rest =>
  have HRU := hcut
  obtain ⟨hf, c, hc, hb⟩ := hcut
  clear w1 w2 w3 w4
  obtain ⟨v1, l1, k1⟩ := hc.2 1 (by omega)
  obtain ⟨v2, l2, k2⟩ := hc.2 2 (by omega)
  obtain ⟨v3, l3, k3⟩ := hc.2 3 (by omega)
  obtain ⟨v4, l4, k4⟩ := hc.2 4 (by omega)
  obtain ⟨v5, l5, k5⟩ := hc.2 5 (by omega)
  obtain ⟨v6, l6, k6⟩ := hc.2 6 (by omega)
  obtain ⟨v7, l7, k7⟩ := hc.2 7 (by omega)
  have c1 := hb.cell
  have f1 := hb.frozen
  go_wp2
  go_end0
  exact ⟨rfl, by (repeat (first | exact HRU | refine RU.setW ?_ _ _ | refine RU.set ?_ _ _ (by omega) (by omega) | refine RU.drew ?_ | refine RU.drewN ?_ _))⟩

end Go.Proofs.YthigfpaajbejdaaGreatDoor
