/-
  plain.Bits, walked.
-/
import Derived.Test.YtnjebaaebhlibaaGreatDoorTold
import Derived.Test.YtnjebaaebhlibaaGreatDoorRefStream
namespace Go.Proofs.YtnjebaaebhlibaaGreatDoor
open Go.RowKit

/-- The variables that are read lie below block B. -/
structure GlB (B : Nat) (w : World) : Prop where
  gl : Gl w
  pow : 1 < B
  et : 0 < B

section
variable {q : Bool} {B : Nat} {w w0 w1 w2 w3 w' : World} {pb tb rb bs : Nat} {c : Cfg} {p p' : Nat} {S T : List Nat}
theorem GlB.keep (h : GlB B w) (hf : Fr S w w') (hS : ∀ x ∈ S, B ≤ x) : GlB B w' :=
  ⟨h.gl.keep hf (fun hx => by have := hS _ hx; have := h.pow; omega) (fun hx => by have := hS _ hx; have := h.et; omega), h.pow, h.et⟩
theorem okn_neg : OkN (-1) := .inl rfl
end

end Go.Proofs.YtnjebaaebhlibaaGreatDoor
