/-
  flacpairref.Of, walked.
-/
import Derived.Test.YthigfpaajbejdaaGreatDoorRefStream
namespace Go.Proofs.YthigfpaajbejdaaGreatDoor
open Go.RowKit

theorem of_fin {w : World} {c : Cfg} {x y : Nat} (hl : c.lim = (x, y)) : StreamB (w.alloc (.cells #[.string (c.text.extract 0 x), .int .i64 y, .int .i64 0] 118)) w.heap.size c 0 := by
  unfold StreamB
  rw [hl]
  exact Blk.new w _ _
theorem extract_all (s : ByteArray) : s.extract 0 s.size = s := by
  apply ByteArray.ext; simp [ByteArray.data_extract]
theorem of_fin' {w : World} {c : Cfg} {y : Nat} (hl : c.lim = (c.len, y)) : StreamB (w.alloc (.cells #[.string c.text, .int .i64 y, .int .i64 0] 118)) w.heap.size c 0 := by
  have h := of_fin (w := w) hl
  unfold Cfg.len at h
  rw [extract_all] at h; exact h

def OfPost (w : World) (c : Cfg) (e : Ending) (w' : World) : Prop := e = .returned (.pointer (some ⟨w.heap.size, 0, none⟩)) ∧ StreamB w' w.heap.size c 0 ∧ Fr [] w w'
theorem OfPost.mk {w : World} {c : Cfg} {x y : Nat} (hl : c.lim = (x, y)) : OfPost w c (.returned (.pointer (some ⟨w.heap.size, 0, none⟩))) (w.alloc (.cells #[.string (c.text.extract 0 x), .int .i64 y, .int .i64 0] 118)) := ⟨rfl, of_fin hl, Fr.alloc [] w _⟩
theorem OfPost.mk' {w : World} {c : Cfg} {y : Nat} (hl : c.lim = (c.len, y)) : OfPost w c (.returned (.pointer (some ⟨w.heap.size, 0, none⟩))) (w.alloc (.cells #[.string c.text, .int .i64 y, .int .i64 0] 118)) := ⟨rfl, of_fin' hl, Fr.alloc [] w _⟩

set_option maxRecDepth 100000 in
set_option maxHeartbeats 2000000 in
theorem of_any {B : Nat} {w : World} {c : Cfg} {a : Option Addr} {cap : Nat} (hP : Pcs B w a c.ps) (hlen : c.len ≤ 1048576) :
    Calls Tryz.prog 43 #[.string c.text, .slice a c.ps.length cap, .int .i64 c.broken] w (OfPost w c) := by
  have hsmall := hP.small
  obtain ⟨len, hln⟩ : ∃ len, len = c.text.size := ⟨_, rfl⟩
  have hlen1 : c.text.size ≤ 1048576 := hlen
  have hclen : Hid (c.len = c.text.size) := rfl
  clear hln len
  generalize hbr : c.broken = br at *
  have hBR := Hid.mk hbr
  clear hbr hlen
  go_enter Tryz.func43, Tryz.ntmps43
  go_wp2_with fail
  go_loop [7, 8, 9] (fun s7 s8 s9 => ∃ k pos em : Nat, k ≤ c.ps.length ∧ pos ≤ c.text.size ∧ em ≤ 8 ∧ Hid (0 ≤ br → (pos : Int) ≤ br) ∧ Hid (limGo c.text.size br (c.ps.drop k) pos em = c.lim) ∧ s7 = .int .i64 pos ∧ s8 = .int .i64 em ∧ s9 = .int .i64 k) (fun _ _ s9 => c.ps.length - (intOf s9).toNat)
  case atStart => exact ⟨0, 0, 0, Nat.zero_le _, Nat.zero_le _, by decide, fun h => h, by unfold Hid; rw [← hBR.out]; rfl, rfl, rfl, rfl⟩
  case round =>
    obtain ⟨k, pos, em, hk, hpos, hem, hbp, hl, rfl, rfl, rfl⟩ := hrel
    by_cases hlt : k < c.ps.length
    · have hlt' : (k : Int) < (c.ps.length : Int) := by omega
      obtain ⟨b, off, rfl, hb, hcell⟩ := hP.cell k hlt
      obtain ⟨hf1, hf2⟩ := hP.fit k hlt
      have hd := Hid.mk (List.drop_eq_getElem_cons hlt)
      have hg := Hid.mk (show c.ps.getD k 0 = c.ps[k] by simp [hlt])
      generalize hp : c.ps.getD k 0 = p at *
      clear hp
      by_cases h1 : 0 ≤ br ∧ br ≤ pos
      · obtain ⟨h1a, h1b⟩ := h1
        have hfin : Hid (c.lim = (pos, 16)) := by
          have := hl.out
          rw [hd.out] at this
          simp only [limGo] at this
          rw [if_pos ⟨h1a, h1b⟩] at this
          exact this.symm
        go_wp2_with fail
        go_ret
        exact OfPost.mk hfin.out
      · have hfin : Hid ((if p ≤ 0 then (if 8 < em + 1 then (pos, 14) else limGo c.text.size br (c.ps.drop (k + 1)) pos (em + 1)) else if (c.text.size : Int) - pos < p then (if 0 ≤ br ∧ br ≤ c.text.size then (br.toNat, 16) else (c.text.size, 1)) else limGo c.text.size br (c.ps.drop (k + 1)) (if 0 ≤ br ∧ br < pos + p then br.toNat else pos + p.toNat) 0) = c.lim) := by
          have := hl.out
          rw [hd.out] at this
          simp only [limGo] at this
          rw [if_neg h1, ← hg.out] at this
          exact this
        have h1' : br < 0 ∨ (0 ≤ br ∧ (pos : Int) < br) := by omega
        by_cases hp0 : p ≤ 0
        · by_cases h9 : 8 < em + 1
          · have h9' : (8 : Int) < (em : Int) + 1 := by omega
            have hf : Hid (c.lim = (pos, 14)) := by have := hfin.out; rw [if_pos hp0, if_pos h9] at this; exact this.symm
            rcases h1' with h1' | ⟨h1', h1''⟩
            all_goals
              go_wp2_with fail
              go_ret
              exact OfPost.mk hf.out
          · have h9' : ¬ (8 : Int) < (em : Int) + 1 := by omega
            have hf : Hid (limGo c.text.size br (c.ps.drop (k + 1)) pos (em + 1) = c.lim) := by have := hfin.out; rw [if_pos hp0, if_neg h9] at this; exact this
            rcases h1' with h1' | ⟨h1', h1''⟩
            all_goals
              go_wp2_with fail
              go_round
              case rel => exact ⟨k + 1, pos, em + 1, by omega, by omega, by omega, hbp, hf, rfl, by go_num, by go_num⟩
              case measure => simp [intOf]; omega
        · have hp0' : ¬ p ≤ 0 := hp0
          by_cases hsh : (c.text.size : Int) - pos < p
          · by_cases hbl : 0 ≤ br ∧ br ≤ c.text.size
            · obtain ⟨hbl1, hbl2⟩ := hbl
              have hf : Hid (c.lim = (br.toNat, 16)) := by have := hfin.out; rw [if_neg hp0, if_pos hsh, if_pos ⟨hbl1, hbl2⟩] at this; exact this.symm
              have h1'' : (pos : Int) < br := by omega
              go_wp2_with fail
              go_ret
              exact OfPost.mk hf.out
            · have hf : Hid (c.lim = (c.len, 1)) := by have := hfin.out; rw [if_neg hp0, if_pos hsh, if_neg hbl] at this; exact this.symm
              have hbl' : br < 0 ∨ (0 ≤ br ∧ (pos : Int) < br ∧ (c.text.size : Int) < br) := by omega
              rcases hbl' with hbl' | ⟨hb1, hb2, hb3⟩
              all_goals
                go_wp2_with fail
                go_ret
                exact OfPost.mk' hf.out
          · have hsh' : p ≤ (c.text.size : Int) - pos := by omega
            by_cases hcl : 0 ≤ br ∧ br < pos + p
            · obtain ⟨hcl1, hcl2⟩ := hcl
              have h1'' : (pos : Int) < br := by omega
              have hf : Hid (limGo c.text.size br (c.ps.drop (k + 1)) br.toNat 0 = c.lim) := by have := hfin.out; rw [if_neg hp0, if_neg hsh, if_pos ⟨hcl1, hcl2⟩] at this; exact this
              go_wp2_with fail
              go_round
              case rel => exact ⟨k + 1, br.toNat, 0, by omega, by omega, by omega, by unfold Hid; omega, hf, congrArg (Value.int .i64) (by omega), rfl, by go_num⟩
              case measure => simp [intOf]; omega
            · have hf : Hid (limGo c.text.size br (c.ps.drop (k + 1)) (pos + p.toNat) 0 = c.lim) := by have := hfin.out; rw [if_neg hp0, if_neg hsh, if_neg hcl] at this; exact this
              have hcl' : br < 0 ∨ (0 ≤ br ∧ (pos : Int) < br ∧ ¬ br < pos + p) := by omega
              rcases hcl' with hcl' | ⟨hb1, hb2, hb3⟩
              all_goals
                go_wp2_with fail
                go_round
                case rel => exact ⟨k + 1, pos + p.toNat, 0, by omega, by omega, by omega, by unfold Hid; omega, hf, congrArg (Value.int .i64) (by omega), rfl, by go_num⟩
                case measure => simp [intOf]; omega
    · have hlt' : ¬ (k : Int) < (c.ps.length : Int) := by omega
      have hfin : Hid ((if 0 ≤ br ∧ br ≤ c.text.size then (br.toNat, 16) else (c.text.size, 1)) = c.lim) := by
        have := hl.out
        rw [List.drop_eq_nil_of_le (by omega)] at this
        exact this
      by_cases hbl : 0 ≤ br ∧ br ≤ c.text.size
      · obtain ⟨hbl1, hbl2⟩ := hbl
        have hf : Hid (c.lim = (br.toNat, 16)) := by have := hfin.out; rw [if_pos ⟨hbl1, hbl2⟩] at this; exact this.symm
        go_wp2_with fail
        go_ret
        exact OfPost.mk hf.out
      · have hf : Hid (c.lim = (c.len, 1)) := by have := hfin.out; rw [if_neg hbl] at this; exact this.symm
        have hbl' : br < 0 ∨ (0 ≤ br ∧ (c.text.size : Int) < br) := by omega
        rcases hbl' with hbl' | ⟨hb1, hb3⟩
        all_goals
          go_wp2_with fail
          go_ret
          exact OfPost.mk' hf.out
end Go.Proofs.YthigfpaajbejdaaGreatDoor
