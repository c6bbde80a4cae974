/-
  Plain laws: a source never comes to less than where it stands.
-/
import Derived.Test.YthigfpaajbejdaaDoorPlain
namespace Go.Proofs.YthigfpaajbejdaaDoor

theorem limGo_bounds (len : Nat) (broken : Int) : ∀ (ps : List Int) (pos emp : Nat), pos ≤ len → (0 ≤ broken → (pos : Int) ≤ broken) →
    pos ≤ (limGo len broken ps pos emp).1 ∧ (limGo len broken ps pos emp).1 ≤ len ∧ ((limGo len broken ps pos emp).2 = 1 ∨ (limGo len broken ps pos emp).2 = 14 ∨ (limGo len broken ps pos emp).2 = 16)
  | [], pos, emp, h1, h2 => by
    simp only [limGo]
    split
    · rename_i h; have := h2 h.1; refine ⟨?_, ?_, .inr (.inr rfl)⟩
      · show pos ≤ broken.toNat; omega
      · show broken.toNat ≤ len; omega
    · exact ⟨h1, Nat.le_refl _, .inl rfl⟩
  | p :: ps, pos, emp, h1, h2 => by
    simp only [limGo]
    split
    · exact ⟨Nat.le_refl _, h1, .inr (.inr rfl)⟩
    · rename_i hb
      split
      · split
        · exact ⟨Nat.le_refl _, h1, .inr (.inl rfl)⟩
        · exact limGo_bounds len broken ps pos (emp + 1) h1 h2
      · split
        · split
          · rename_i h; have := h2 h.1; refine ⟨?_, ?_, .inr (.inr rfl)⟩
            · show pos ≤ broken.toNat; omega
            · show broken.toNat ≤ len; omega
          · exact ⟨h1, Nat.le_refl _, .inl rfl⟩
        · rename_i h3 h4
          have ih := limGo_bounds len broken ps (if 0 ≤ broken ∧ broken < pos + p then broken.toNat else pos + p.toNat) 0
            (by split <;> omega) (by intro h0; split <;> omega)
          refine ⟨Nat.le_trans ?_ ih.1, ih.2.1, ih.2.2⟩
          split <;> omega

theorem Cfg.from_bounds (c : Cfg) (pos left k emp : Nat) (hok : c.ok pos) :
    pos ≤ (c.from_ pos left k emp).1 ∧ (c.from_ pos left k emp).1 ≤ c.len ∧ ((c.from_ pos left k emp).2 = 1 ∨ (c.from_ pos left k emp).2 = 14 ∨ (c.from_ pos left k emp).2 = 16) := by
  obtain ⟨_, h1, h2⟩ := hok
  unfold from_
  split
  · exact limGo_bounds _ _ _ _ _ h1 h2
  · exact limGo_bounds _ _ _ _ _ h1 h2
end Go.Proofs.YthigfpaajbejdaaDoor
