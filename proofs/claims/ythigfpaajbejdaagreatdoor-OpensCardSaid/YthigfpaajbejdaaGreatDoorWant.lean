/-
  Plain laws: a source never comes to less than where it stands.
-/
/-
  feed.Want: so many bytes are there, or what stands in the way.
-/
import Derived.Test.YthigfpaajbejdaaGreatDoorPlain
import Derived.Test.YthigfpaajbejdaaGreatDoorFeed
namespace Go.Proofs.YthigfpaajbejdaaGreatDoor

theorem limGo_bounds (len : Nat) (broken : Int) : ∀ (ps : List Int) (pos emp : Nat), pos ≤ len → (0 ≤ broken → (pos : Int) ≤ broken) →
    pos ≤ (limGo len broken ps pos emp).1 ∧ (limGo len broken ps pos emp).1 ≤ len ∧ ((limGo len broken ps pos emp).2 = 1 ∨ (limGo len broken ps pos emp).2 = 14 ∨ (limGo len broken ps pos emp).2 = 16)
  | [], pos, emp, h1, h2 => by
    simp only [limGo]
    split
    · rename_i h; have := h2 h.1; refine ⟨?_, ?_, .inr (.inr rfl)⟩
      · show pos ≤ broken.toNat; omega
      · show broken.toNat ≤ len; omega
    · exact ⟨h1, Nat.le_refl _, .inl rfl⟩
  | p :: ps, pos, emp, h1, h2 => by
    simp only [limGo]
    split
    · exact ⟨Nat.le_refl _, h1, .inr (.inr rfl)⟩
    · rename_i hb
      split
      · split
        · exact ⟨Nat.le_refl _, h1, .inr (.inl rfl)⟩
        · exact limGo_bounds len broken ps pos (emp + 1) h1 h2
      · split
        · split
          · rename_i h; have := h2 h.1; refine ⟨?_, ?_, .inr (.inr rfl)⟩
            · show pos ≤ broken.toNat; omega
            · show broken.toNat ≤ len; omega
          · exact ⟨h1, Nat.le_refl _, .inl rfl⟩
        · rename_i h3 h4
          have ih := limGo_bounds len broken ps (if 0 ≤ broken ∧ broken < pos + p then broken.toNat else pos + p.toNat) 0
            (by split <;> omega) (by intro h0; split <;> omega)
          refine ⟨Nat.le_trans ?_ ih.1, ih.2.1, ih.2.2⟩
          split <;> omega

theorem Cfg.from_bounds (c : Cfg) (pos left k emp : Nat) (hok : c.ok pos) :
    pos ≤ (c.from_ pos left k emp).1 ∧ (c.from_ pos left k emp).1 ≤ c.len ∧ ((c.from_ pos left k emp).2 = 1 ∨ (c.from_ pos left k emp).2 = 14 ∨ (c.from_ pos left k emp).2 = 16) := by
  obtain ⟨_, h1, h2⟩ := hok
  unfold from_
  split
  · exact limGo_bounds _ _ _ _ _ h1 h2
  · exact limGo_bounds _ _ _ _ _ h1 h2
end Go.Proofs.YthigfpaajbejdaaGreatDoor
namespace Go.Proofs.YthigfpaajbejdaaGreatDoor
open Go.RowKit

theorem FeedV.ft_lim {B : Nat} {w : World} {fb bs : Nat} {c : Cfg} {tk ft left k err emp : Nat} {v : Value} {xs : List Value} (h : FeedV B w fb bs c tk ft left k err emp v xs) : ft ≤ c.lim.1 := by
  have hg := h.goes
  split at hg
  · rw [← hg]; exact (c.from_bounds ft left k emp h.src.ok).1
  · rw [hg]; exact Nat.le_refl _
theorem FeedV.lim_len {B : Nat} {w : World} {fb bs : Nat} {c : Cfg} {tk ft left k err emp : Nat} {v : Value} {xs : List Value} (h : FeedV B w fb bs c tk ft left k err emp v xs) : c.lim.1 ≤ c.len := by
  have hg := h.goes
  split at hg
  · rw [← hg]; exact (c.from_bounds ft left k emp h.src.ok).2.1
  · rw [hg]; exact h.ft_le.1

set_option maxRecDepth 100000 in
set_option maxHeartbeats 1000000 in
theorem more_stop {B : Nat} {w : World} {fb bs : Nat} {c : Cfg} {tk ft left k err : Nat} {v : Value} {xs : List Value} (h : FeedV B w fb bs c tk ft left k err 0 v xs) (he : err ≠ 0) :
    Calls Tryz.prog 243 #[.pointer (some ⟨fb, 0, none⟩)] w (MorePost B w fb bs c tk ft v xs) := by
  have hc := h.blk.cell
  rw [errV_pos he] at hc
  obtain ⟨hh, hl⟩ := errV_leaf he
  have hln := hl.nil
  go_enter Tryz.func243, Tryz.ntmps243
  go_wp2_with fail
  refine wp_loop_rounds 1 ?_
  rw [rounds_succ]
  go_wp2_with fail
  go_ret
  exact ⟨Fr.refl _ _, .inr ⟨rfl, left, k, err, he, h⟩⟩
theorem more_any {B : Nat} {w : World} {fb bs : Nat} {c : Cfg} {tk ft left k err : Nat} {v : Value} {xs : List Value} (h : FeedV B w fb bs c tk ft left k err 0 v xs) :
    Calls Tryz.prog 243 #[.pointer (some ⟨fb, 0, none⟩)] w (MorePost B w fb bs c tk ft v xs) := by
  by_cases he : err = 0
  · subst he; exact more_go h
  · exact more_stop h he

theorem Hid.mk {p : Prop} (h : p) : Hid p := h
theorem FeedV.cells {B : Nat} {w : World} {fb bs : Nat} {c : Cfg} {tk ft left k err emp : Nat} {v : Value} {xs : List Value} (h : FeedV B w fb bs c tk ft left k err emp v xs) (he : err ≠ 0) (i : Nat) :
    w.cell? ⟨fb, i, none⟩ = #[.iface 99 (.pointer (some ⟨bs, 0, none⟩)), .string (c.text.extract tk ft), .iface (errT err) (.int .i64 (errN err)), v, .int .i64 tk][i]? := by
  have := h.blk.cell i
  rw [errV_pos he] at this
  exact this
theorem FeedV.lim_at {B : Nat} {w : World} {fb bs : Nat} {c : Cfg} {tk ft left k err emp : Nat} {v : Value} {xs : List Value} (h : FeedV B w fb bs c tk ft left k err emp v xs) (he : err ≠ 0) : c.lim = (ft, err) := by
  have := h.goes
  rw [if_neg he] at this; exact this

/-- EOF is ErrEnd, where a byte must be. -/
def wantE (e : Nat) : Nat := if e = 1 then 3 else e
def WantPost (B : Nat) (w : World) (fb bs : Nat) (c : Cfg) (tk ft n : Nat) (v : Value) (xs : List Value) (e : Ending) (w' : World) : Prop :=
  Fr [fb, bs] w w' ∧ ∃ ft' left k err, ft ≤ ft' ∧ FeedV B w' fb bs c tk ft' left k err 0 v xs ∧
    ((tk + n ≤ c.lim.1 ∧ tk + n ≤ ft' ∧ e = .returned .nilIface) ∨ (c.lim.1 < tk + n ∧ e = .returned (errV (wantE c.lim.2))))

theorem Is_eof {e : Nat} (he : e ≠ 0) (w : World) : Calls Tryz.prog 64 #[.iface (errT e) (.int .i64 (errN e)), .iface 138 (.int .i64 1)] w fun ev w' => ev = .returned (.bool (decide (e = 1))) ∧ w = w' := by
  obtain ⟨h, hl⟩ := errV_leaf he
  refine Is_leaf _ _ _ _ _ _ _ hl (leaf_failure 1) ?_ w
  unfold errT errN
  by_cases h16 : e = 16
  · subst h16; exact eq_pf _ _
  · rw [if_neg h16, if_neg h16]
    have := eq_ff e 1
    by_cases h1 : e = 1
    · subst h1; simpa using this
    · have e1 : ((e : Int) == 1) = false := by simp; omega
      rw [e1] at this; simpa [h1] using this

set_option maxRecDepth 100000 in
set_option maxHeartbeats 4000000 in
theorem want_any {B : Nat} {w : World} {fb bs : Nat} {c : Cfg} {tk ft left k err : Nat} {v : Value} {xs : List Value} (h : FeedV B w fb bs c tk ft left k err 0 v xs) (n : Nat) :
    Calls Tryz.prog 242 #[.pointer (some ⟨fb, 0, none⟩), .int .i64 n, .bool true] w (WantPost B w fb bs c tk ft n v xs) := by
  go_enter Tryz.func242, Tryz.ntmps242
  go_wp2_with fail
  go_loopg [] (c.len - ft) (fun g wx => ∃ ft' left k err : Nat, g = c.len - ft' ∧ ft ≤ ft' ∧ FeedV B wx fb bs c tk ft' left k err 0 v xs ∧ Fr [fb, bs] w wx)
  case atStart => exact ⟨ft, left, k, err, rfl, Nat.le_refl _, h, Fr.refl _ _⟩
  case round =>
    obtain ⟨ft', left, k, err, hg, hle, hv, hf⟩ := hrel
    have hc := hv.blk.cell
    have hsz := hv.size
    have htk := hv.le
    have hln := hv.ft_le
    by_cases hn : ft' - tk < n
    · have hn1 : (((ft' - tk : Nat) : Int)) < (n : Int) := by omega
      go_wp2_with (first
        | (go_at_call 243; refine (more_any hv).mono ?_; rintro e w1 ⟨hf1, ⟨rfl, ft2, l2, k2, hlt, hv2⟩ | ⟨rfl, l3, k3, err3, hne3, hv3⟩⟩ <;> (try (have hc3 := hv3.cells hne3)))
        | (go_at_call 64; refine (Is_eof hne3 _).mono ?_; rintro ev w2 ⟨rfl, rfl⟩; rcases Decidable.em (err3 = 1) with h1 | h1 <;> (try (have hd1 := decide_eq_true h1)) <;> (try (have hd1 := decide_eq_false h1)) <;> (try (have h2 := Hid.mk h1; clear h1))))
      · go_roundg (c.len - ft2)
        case measure => have := hv2.ft_le; omega
        case rel => exact ⟨ft2, l2, k2, 0, rfl, by omega, hv2, hf.same hf1⟩
      · go_ret
        obtain rfl := h2.out
        have hl := hv3.lim_at hne3
        refine ⟨hf.same hf1, ft', l3, k3, 1, hle, hv3, .inr ⟨by rw [hl]; show ft' < tk + n; omega, ?_⟩⟩
        rw [hl]; rfl
      · go_ret
        have hl := hv3.lim_at hne3
        refine ⟨hf.same hf1, ft', l3, k3, err3, hle, hv3, .inr ⟨by rw [hl]; show ft' < tk + n; omega, ?_⟩⟩
        rw [hl]
        show _ = Ending.returned (errV (wantE err3))
        rw [wantE, if_neg h2.out, errV_pos hne3]; rfl
    · have hn1 : ¬ (((ft' - tk : Nat) : Int)) < (n : Int) := by omega
      go_wp2_with fail
      go_ret
      have := hv.ft_lim
      exact ⟨hf, ft', left, k, err, hle, hv, .inl ⟨by omega, by omega, rfl⟩⟩
end Go.Proofs.YthigfpaajbejdaaGreatDoor
