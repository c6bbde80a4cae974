/-
  check.NewTables, walked.
-/
/-
  check.New and frame.KitOf, walked, as far as Open asks of them.
-/
import Derived.Test.YthigfpaajbejdaaGreatDoorTabWalk
import Derived.Laws.BytesString
import Derived.StillTailTactics
import Derived.Laws.IdiomStrings
import Derived.Deep.RegionWith
import Derived.Laws.EntriesVeiled
namespace Go.Proofs.YthigfpaajbejdaaGreatDoor
open Go.RowKit

/-- The tables in the making: where D holds, what is to stand there stands there. -/
def TabI (w : World) (tb : Nat) (D : Nat → Prop) : Prop := ∃ cs : Array Value, Blk w tb cs 247 ∧ cs.size = 2304 ∧ ∀ i, i < 2304 → D i → cs[i]? = some (tabVal i)
theorem TabI.keep {w w' : World} {tb : Nat} {S : List Nat} {D : Nat → Prop} (h : TabI w tb D) (hf : Fr S w w') (hS : tb ∉ S) : TabI w' tb D := by
  obtain ⟨cs, hb, h1, h2⟩ := h
  exact ⟨cs, hf.blk hb hS, h1, h2⟩
theorem TabI.there {w : World} {tb : Nat} {D : Nat → Prop} (h : TabI w tb D) (i : Nat) (hi : i < 2304) : ∃ v, w.cell? ⟨tb, i, none⟩ = some v ∧ w.frozen? ⟨tb, i, none⟩ = false := by
  obtain ⟨cs, hb, h1, _⟩ := h
  exact ⟨cs[i]'(by omega), by rw [hb.cell i, Array.getElem?_eq_getElem], hb.frozen i⟩
theorem TabI.cell {w : World} {tb : Nat} {D : Nat → Prop} (h : TabI w tb D) (i : Nat) (hi : i < 2304) (hD : D i) : w.cell? ⟨tb, i, none⟩ = some (tabVal i) := by
  obtain ⟨cs, hb, _, hc⟩ := h
  rw [hb.cell i, hc i hi hD]
theorem TabI.set {w : World} {tb : Nat} {D D' : Nat → Prop} (h : TabI w tb D) (m : Nat) (hD : ∀ i, D' i → D i ∨ i = m) (v : Value) (hv : v = tabVal m) : TabI (w.setCell ⟨tb, m, none⟩ v) tb D' := by
  obtain ⟨cs, hb, h1, h2⟩ := h
  refine ⟨_, hb.set m v, by simpa using h1, fun i hi hd => ?_⟩
  rw [Array.getElem?_setIfInBounds]
  by_cases he : m = i
  · subst he
    rw [if_pos rfl, if_pos (by omega), hv]
  · rw [if_neg he]
    rcases hD i hd with h | h
    · exact h2 i hi h
    · exact absurd h.symm he
theorem tabVal_two (n x : Nat) (hx : x < 256) : tabVal (256 + (n * 256 + x)) = .int .u16 (Crc.page n x) := by
  unfold tabVal
  rw [if_neg (by omega), show 256 + (n * 256 + x) - 256 = n * 256 + x by omega, show (n * 256 + x) / 256 = n by omega, show (n * 256 + x) % 256 = x by omega]
theorem zeros_tab : (Tryz.prog.info? 247).map (·.size) = some 2304 := by kernel_rfl

theorem one_le {x : UInt8} : (⟨#[x]⟩ : ByteArray).size ≤ 9223372036854775806 := (by decide : 1 ≤ 9223372036854775806)
theorem one_byte (wr : World) (k : Nat) (hk : k < 256) : (convert 76 9 (.slice (some ⟨wr.heap.size, 0, none⟩) 1 1)).run Tryz.prog (wr.alloc (.cells #[.int .u8 (k : Int)] 5)).drew = .ok (.string ⟨#[UInt8.ofNat k]⟩) (wr.alloc (.cells #[.int .u8 (k : Int)] 5)).drew := by
  refine run_convert_bytes_back (P := Tryz.prog) _ 76 9 5 ⟨wr.heap.size, 0, none⟩ 1 [UInt8.ofNat k] Tryz.underlying76 Tryz.underlying5 Tryz.underlying9 ?_
  intro j hj
  have hj0 : j = 0 := by simpa using hj
  subst hj0
  have := ((Blk.new wr #[.int .u8 (k : Int)] 5).drewN 1).cell 0
  refine this.trans ?_
  simp [UInt8.toNat_ofNat', Nat.mod_eq_of_lt hk]
theorem txt_one (k : Nat) (hk : k < 256) : txt ⟨#[UInt8.ofNat k]⟩ = [k] := by
  show [(UInt8.ofNat k).toNat] = [k]
  rw [UInt8.toNat_ofNat', Nat.mod_eq_of_lt hk]
theorem val_one (k : Nat) (hk : k < 256) : Value.int .u8 ((Crc.text 8 7 (txt ⟨#[UInt8.ofNat k]⟩) : Nat) : Int) = tabVal k := by
  rw [txt_one k hk]; unfold tabVal; rw [if_pos hk]
  refine congrArg (fun z : Nat => Value.int .u8 (z : Int)) ?_
  show Crc.byte 8 7 0 k = _
  unfold Crc.byte
  rw [Nat.zero_xor, show k * 2 ^ (8 - 8) = k by simp]
theorem val_two (k : Nat) (hk : k < 256) : Value.int .u16 ((Crc.text 16 0x8005 (txt ⟨#[UInt8.ofNat k]⟩) : Nat) : Int) = tabVal (256 + k) := by
  have h := tabVal_two 0 k hk
  rw [Nat.zero_mul, Nat.zero_add] at h
  rw [txt_one k hk, h]
  refine congrArg (fun z : Nat => Value.int .u16 (z : Int)) ?_
  show Crc.byte 16 0x8005 0 k = _
  rw [Crc.page_zero]
set_option maxRecDepth 1000000 in
set_option maxHeartbeats 4000000 in
theorem newTables_any (w : World) : Calls Tryz.prog 91 #[] w fun e w' => e = .returned (.pointer (some ⟨w.heap.size, 0, none⟩)) ∧ TabP w' w.heap.size ∧ Fr [] w w' := by
  go_enter Tryz.func91, Tryz.ntmps91
  go_wp2_with fail
  have hI0 : TabI (w.alloc (.cells Tryz.zeroCells247 247)) w.heap.size (fun i => i < 0 ∨ (256 ≤ i ∧ i < 256 + 0)) := ⟨_, Blk.new w _ _, by kernel_rfl, fun i _ hD => by omega⟩
  have hF0 : Fr [] w (w.alloc (.cells Tryz.zeroCells247 247)) := Fr.alloc [] w _
  have hlt0 : w.heap.size < (w.alloc (.cells Tryz.zeroCells247 247)).heap.size := by simp
  obtain ⟨tb, htb⟩ : ∃ tb, tb = w.heap.size := ⟨_, rfl⟩
  rw [← htb] at hI0 hlt0 ⊢
  have htb' := Hid.mk' htb
  clear htb
  generalize w.alloc (.cells Tryz.zeroCells247 247) = w0 at *
  go_loopg [8] 256 (fun g s8 wx => ∃ k : Nat, g = 256 - k ∧ k ≤ 256 ∧ s8 = .int .i64 k ∧ TabI wx tb (fun i => i < k ∨ (256 ≤ i ∧ i < 256 + k)) ∧ Fr [tb] w0 wx)
  case atStart => exact ⟨0, rfl, by decide, rfl, hI0, Fr.refl _ _⟩
  case round =>
    obtain ⟨k, hg, hk, rfl, hI, hF⟩ := hrel
    have hG := Hid.mk' hg
    clear hg
    by_cases hlt : k < 256
    · have hlt' : (k : Int) < 256 := by omega
      have hk0 : (0 : Int) ≤ (k : Int) := by omega
      have hwk : IntKind.u8.wrap (k : Int) = (k : Int) := by rw [IntKind.wrap_u8']; omega
      have hW1 := hI.keep (S := []) ((Fr.alloc [] wr (.cells #[.int .u8 (k : Int)] 5)).drew') (by simp)
      obtain ⟨v1, hv1, hz1⟩ := hW1.there k (by omega)
      have hconv := one_byte wr k hlt
      go_wp2_with fail
      go_region_with
        ((go_at_call 95; (with_reducible refine (crc8_any _ one_le _).mono ?_); rintro e w1 ⟨rfl, rfl⟩))
      have hI2 : TabI (((wr.alloc (.cells #[.int .u8 (k : Int)] 5)).setCell ⟨tb, k, none⟩ (.int .u8 (Crc.text 8 7 (txt ⟨#[UInt8.ofNat k]⟩)))).drew) tb (fun i => i < k + 1 ∨ (256 ≤ i ∧ i < 256 + k)) :=
        ((hI.keep (S := []) (Fr.alloc [] wr _) (by simp)).set k (fun i hi => by omega) _ (val_one k hlt)).keep (S := []) ((Fr.refl [] _).drew') (by simp)
      have hF2 : Fr [tb] w0 (((wr.alloc (.cells #[.int .u8 (k : Int)] 5)).setCell ⟨tb, k, none⟩ (.int .u8 (Crc.text 8 7 (txt ⟨#[UInt8.ofNat k]⟩)))).drew) := ((hF.alloc' _).set' _ (List.mem_singleton.2 rfl)).drew'
      clear hv1 hz1 hconv hW1 hI hF
      generalize ((wr.alloc (.cells #[.int .u8 (k : Int)] 5)).setCell ⟨tb, k, none⟩ (.int .u8 (Crc.text 8 7 (txt ⟨#[UInt8.ofNat k]⟩)))).drew = wv at *
      have hW2 := hI2.keep (S := []) ((Fr.alloc [] wv (.cells #[.int .u8 (k : Int)] 5)).drew') (by simp)
      obtain ⟨v2, hv2, hz2⟩ := hW2.there (256 + k) (by omega)
      have hconv2 := one_byte wv k hlt
      go_wp2_with fail
      go_region_with
        ((go_at_call 96; (with_reducible refine (crc16_any _ one_le _).mono ?_); rintro e w1 ⟨rfl, rfl⟩))
      go_wp2_with fail
      go_roundg (256 - (k + 1))
      case measure => have := hG.out; omega
      case rel =>
        refine ⟨k + 1, rfl, by omega, by go_num, ?_, ((hF2.alloc' _).set' _ (List.mem_singleton.2 rfl)).drew'⟩
        exact ((hI2.keep (S := []) (Fr.alloc [] wv _) (by simp)).set (256 + k) (fun i hi => by omega) _ (val_two k hlt)).keep (S := []) ((Fr.refl [] _).drew') (by simp)
    · have hlt' : ¬ (k : Int) < 256 := by omega
      have hI1 : TabI wr tb (fun i => i < 512 + 0 * 256 + 0) := by
        obtain ⟨cs, h1, h2, h3⟩ := hI
        exact ⟨cs, h1, h2, fun i hi hd => h3 i hi (by omega)⟩
      clear hI
      go_wp2_with fail
      go_loopg [3] 7 (fun g s3 wx => ∃ n : Nat, g = 7 - n ∧ n ≤ 7 ∧ s3 = .int .i64 ((n : Int) + 1) ∧ TabI wx tb (fun i => i < 512 + n * 256 + 0) ∧ Fr [tb] w0 wx)
      case atStart => exact ⟨0, rfl, by decide, rfl, hI1, hF⟩
      case round =>
        obtain ⟨n, hg, hn7, rfl, hI, hF⟩ := hrel
        have hG := Hid.mk' hg
        clear hg hI1
        by_cases hlt8 : n < 7
        · have hlt8' : (n : Int) + 1 < 8 := by omega
          go_wp2_with fail
          obtain ⟨wo, rfl⟩ : ∃ wo : World, wo = wr := ⟨_, rfl⟩
          go_loopg [37] 256 (fun g s37 wx => ∃ m : Nat, g = 256 - m ∧ m ≤ 256 ∧ s37 = .int .i64 m ∧ TabI wx tb (fun i => i < 512 + n * 256 + m) ∧ Fr [tb] w0 wx)
          case atStart => exact ⟨0, rfl, by decide, rfl, hI, hF⟩
          case round =>
            obtain ⟨m, hg3, hm, rfl, hI3, hF3⟩ := hrel
            have hG3 := Hid.mk' hg3
            clear hg3
            by_cases hlm : m < 256
            · have hlm' : (m : Int) < 256 := by omega
              have hcell : wr.cell? ⟨tb, 256 + n * 256 + m, none⟩ = some (.int .u16 (Crc.page n m)) := by
                rw [show 256 + n * 256 + m = 256 + (n * 256 + m) by omega, hI3.cell _ (by omega) (by omega), tabVal_two n m hlm]
              have hc := Crc.page_lt n m hlm
              have hnext := Hid.mk' (Crc.page_succ n m hlm)
              generalize Crc.page n m = c at *
              have hcell0 : wr.cell? ⟨tb, 256 + c / 256, none⟩ = some (.int .u16 (Crc.page 0 (c / 256))) := by
                have h := hI3.cell (256 + (0 * 256 + c / 256)) (by omega) (by omega)
                rw [tabVal_two 0 (c / 256) (by omega), Nat.zero_mul, Nat.zero_add] at h
                exact h
              obtain ⟨v5, hv5, hz5⟩ := hI3.there (256 + (n + 1) * 256 + m) (by omega)
              have hq0 : (0 : Int) ≤ (c : Int) / 256 := by omega
              have hq1 : (c : Int) / 256 < 256 := by omega
              have hqn : ((c : Int) / 256).toNat = c / 256 := by omega
              have hnn : ((n : Int) + 1).toNat = n + 1 := by omega
              have hn0 : (0 : Int) ≤ (n : Int) + 1 := by omega
              have hm0 : (0 : Int) ≤ (m : Int) := by omega
              go_wp2_with fail
              refine wp_tail 18 (by kernel_rfl) (by kernel_rfl) ?_
              simp only [List.take_succ_cons, List.take_zero, List.drop_succ_cons, List.drop_zero]
              repeat still_step
              refine wpStill_nil ?_
              go_wp2_with fail
              go_roundg (256 - (m + 1))
              case measure => have := hG3.out; omega
              case rel =>
                refine ⟨m + 1, rfl, by omega, by go_num, (hI3.set (256 + (n + 1) * 256 + m) (fun i hi => by omega) _ ?_).keep (S := []) ((Fr.refl [] _).drew') (by simp), (hF3.set' _ (List.mem_singleton.2 rfl)).drew'⟩
                have h := tabVal_two (n + 1) m hlm
                rw [show 256 + (n + 1) * 256 + m = 256 + ((n + 1) * 256 + m) by omega, h, hnext.out]
                rw [show IntKind.u16.wrap ((c : Int) * 256) = ((c * 256 % 65536 : Nat) : Int) by rw [IntKind.wrap_u16]; omega]
                rw [u16_xor_nat _ _ (Nat.mod_lt _ (by decide)) (Crc.page_lt 0 (c / 256) (by omega))]
            · have hlm' : ¬ (m : Int) < 256 := by omega
              go_wp2_with fail
              go_roundg (7 - (n + 1))
              case measure => have := hG.out; omega
              case rel =>
                refine ⟨n + 1, rfl, by omega, by go_num, ?_, hF3⟩
                obtain ⟨cs, h1, h2, h3⟩ := hI3
                exact ⟨cs, h1, h2, fun i hi hd => h3 i hi (by omega)⟩
        · have hlt8' : ¬ (n : Int) + 1 < 8 := by omega
          go_wp2_with fail
          go_ret
          refine ⟨by rw [← htb'.out]; rfl, ?_, hF0.trans hF (fun x hx => .inr (by rw [List.mem_singleton] at hx; rw [hx, htb'.out]; exact Nat.le_refl _))⟩
          rw [← htb'.out]
          obtain ⟨cs, h1, h2, h3⟩ := hI
          exact ⟨cs, h1, h2, fun i hi => h3 i hi (by omega)⟩
end Go.Proofs.YthigfpaajbejdaaGreatDoor
namespace Go.Proofs.YthigfpaajbejdaaGreatDoor
open Go.RowKit

theorem hashNew_any (w : World) : Calls Tryz.prog 61 #[] w fun e w' => e = .returned (.pointer (some ⟨w.heap.size, 0, none⟩)) ∧ Fr [] w w' := by
  go_enter Tryz.func61, Tryz.ntmps61
  go_wp2_with fail
  go_ret
  exact ⟨rfl, Fr.alloc [] w _⟩
theorem kfrs3 (b : Nat) (w : World) (i j k : Nat) (u x y : Value) : Fr [b] w (((w.setCell ⟨b, i, none⟩ u).setCell ⟨b, j, none⟩ x).setCell ⟨b, k, none⟩ y) :=
  (((Fr.refl [b] w).set' (a := ⟨b, i, none⟩) u (List.mem_singleton.2 rfl)).set' (a := ⟨b, j, none⟩) x (List.mem_singleton.2 rfl)).set' (a := ⟨b, k, none⟩) y (List.mem_singleton.2 rfl)
theorem kitO_s (w : World) : Calls Tryz.prog 60 #[.int .i64 0] w fun e w' => ∃ k0 k1 k2, (e = .returned (.agg #[.func k0 #[] #[], .func k1 #[] #[], .func k2 #[] #[]])) ∧ Fr [] w w' := by
  go_enter Tryz.func60, Tryz.ntmps60
  go_wp2_with fail
  refine bodyPost_ret (results_cell_row rfl _ _ w.heap.size 145 #[.func (Fn.func 95) #[] #[], .func (Fn.func 96) #[] #[], .func (Fn.func 97) #[] #[]] (0, 0) _ rfl (heap_alloc_new w _) Tryz.underlying145 rfl (by kernel_rfl)) rfl ?_
  exact ⟨_, _, _, rfl, Fr.alloc [] w _⟩
theorem kitO_q (w : World) : Calls Tryz.prog 60 #[.int .i64 1] w fun e w' => ∃ k0 k1 k2 x0 x1, (e = .returned (.agg #[.func k0 x0 #[], .func k1 x1 #[], .func k2 #[] #[]])) ∧ Fr [] w w' := by
  have hmf : ∀ (fn : Fn) (first cap : Array Value) (w : World), (Instr.makeFunc fn first cap).run Tryz.prog w = .ok (.func fn first cap) w := fun _ _ _ _ => rfl
  have hb0 := Blk.new w #[.nilFunc, .nilFunc, .nilFunc] 145
  have hF0 := Fr.alloc [] w (.cells #[.nilFunc, .nilFunc, .nilFunc] 145)
  go_enter Tryz.func60, Tryz.ntmps60
  go_wp2_with (go_at_call 91; (with_reducible refine (newTables_any _).mono ?_); rintro e w1 ⟨rfl, ht, hf1⟩; have hb1 := hf1.blk hb0 (by simp); have hc1 := hb1.cell; have hz1 := hb1.frozen)
  refine bodyPost_ret (results_cell_row rfl _ _ w.heap.size 145 #[.func (Fn.func 92) #[.pointer (some ⟨w.heap.size + 1, 0, none⟩)] #[], .func (Fn.func 93) #[.pointer (some ⟨w.heap.size + 1, 0, none⟩)] #[], .func (Fn.func 94) #[] #[]] (0, 0) _ rfl (((hb1.set 0 _).set 1 _).set 2 _) Tryz.underlying145 rfl (by kernel_rfl)) rfl ?_
  exact ⟨_, _, _, _, _, rfl, (hF0.same hf1).trans (kfrs3 w.heap.size w1 0 1 2 _ _ _) (fun x hx => .inr (by rw [List.mem_singleton] at hx; omega))⟩
end Go.Proofs.YthigfpaajbejdaaGreatDoor
