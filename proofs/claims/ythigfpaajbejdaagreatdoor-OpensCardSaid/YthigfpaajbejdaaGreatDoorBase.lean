/-
  Blocks of the heap known whole, and frames: what a call leaves as it was.
-/
import Derived.WalkKit
import Derived.WalkLawsBesides
import Derived.WalkSpells
import Derived.Deep.QuietTactic
import Derived.BigQuiet
import Derived.StillTailTactics
import Derived.Lib.Hide
namespace Go.Proofs.YthigfpaajbejdaaGreatDoor
open Go.RowKit

/-- Block b is a row of the cells c, of type t, none of them frozen. -/
def Blk (w : World) (b : Nat) (c : Array Value) (t : TypeId) : Prop := w.heap[b]? = some (.cells c t (0, 0))

section
variable {w : World} {b : Nat} {c : Array Value} {t : TypeId}
theorem Blk.cell (h : Blk w b c t) (i : Nat) : w.cell? ⟨b, i, none⟩ = c[i]? := by
  unfold Blk at h; simp [World.cell?, h]
theorem Blk.frozen (h : Blk w b c t) (i : Nat) : w.frozen? ⟨b, i, none⟩ = false := by
  unfold Blk at h; simp [World.frozen?, h]
theorem Blk.lt (h : Blk w b c t) : b < w.heap.size := (Array.getElem?_eq_some_iff.1 h).1
theorem Blk.heap {w' : World} (h : Blk w b c t) (e : w'.heap[b]? = w.heap[b]?) : Blk w' b c t := e.trans h
theorem Blk.drewN (h : Blk w b c t) (n : Nat) : Blk (w.drewN n) b c t := h.heap (by simp [World.drewN])
theorem Blk.alloc (h : Blk w b c t) (o : Obj) : Blk (w.alloc o) b c t := h.heap (Below.heap_alloc w o b h.lt)
theorem Blk.new (w : World) (c : Array Value) (t : TypeId) : Blk (w.alloc (.cells c t)) w.heap.size c t := heap_alloc_new w _
theorem Blk.set (h : Blk w b c t) (i : Nat) (v : Value) : Blk (w.setCell ⟨b, i, none⟩ v) b (c.setIfInBounds i v) t := by
  unfold Blk at *; simp [World.setCell, Array.getElem?_modify, h]
theorem Blk.setO (h : Blk w b c t) {a : Addr} (v : Value) (hne : b ≠ a.block) : Blk (w.setCell a v) b c t :=
  h.heap (Below.heap_setCell w a v b hne)
theorem Blk.ne {b' : Nat} {c' : Array Value} {t' : TypeId} (h : Blk w b c t) (h' : Blk w b' c' t') (ht : t ≠ t') : b ≠ b' := by
  rintro rfl
  unfold Blk at *; rw [h] at h'; simp at h'; exact ht h'.2
end

/-- Of what was there, all but the blocks of S is as it was. -/
structure Fr (S : List Nat) (w w' : World) : Prop where
  os : w'.os = w.os
  tape : w'.tape = w.tape
  output : w'.output = w.output
  size : w.heap.size ≤ w'.heap.size
  block : ∀ k, k < w.heap.size → k ∉ S → w'.heap[k]? = w.heap[k]?
section
variable {S : List Nat} {w w' w'' : World}
theorem Fr.refl (S : List Nat) (w : World) : Fr S w w := ⟨rfl, rfl, rfl, Nat.le_refl _, fun _ _ _ => rfl⟩
theorem Fr.drewN (S : List Nat) (w : World) (n : Nat) : Fr S w (w.drewN n) :=
  ⟨by simp [World.drewN], by simp [World.drewN], by simp [World.drewN], by simp [World.drewN], fun _ _ _ => by simp [World.drewN]⟩
theorem Fr.alloc (S : List Nat) (w : World) (o : Obj) : Fr S w (w.alloc o) :=
  ⟨rfl, rfl, rfl, by simp, fun k hk _ => Below.heap_alloc w o k hk⟩
theorem Fr.set {a : Addr} (v : Value) (h : a.block ∈ S) : Fr S w (w.setCell a v) :=
  ⟨rfl, rfl, rfl, by simp [World.setCell], fun k _ hk => Below.heap_setCell w a v k (fun e => hk (e ▸ h))⟩
theorem Fr.trans {T : List Nat} (h : Fr S w w') (h' : Fr T w' w'') (hT : ∀ k ∈ T, k ∈ S ∨ w.heap.size ≤ k) : Fr S w w'' :=
  ⟨h'.os.trans h.os, h'.tape.trans h.tape, h'.output.trans h.output, Nat.le_trans h.size h'.size,
    fun k hk hS => (h'.block k (Nat.lt_of_lt_of_le hk h.size) (fun hkT => by rcases hT k hkT with h1 | h1; exact hS h1; omega)).trans (h.block k hk hS)⟩
theorem Fr.same (h : Fr S w w') (h' : Fr S w' w'') : Fr S w w'' := h.trans h' (fun _ hk => .inl hk)
theorem Fr.mono {T : List Nat} (h : Fr S w w') (hT : ∀ k ∈ S, k ∈ T ∨ w.heap.size ≤ k) : Fr T w w' :=
  ⟨h.os, h.tape, h.output, h.size, fun k hk hkT => h.block k hk (fun hkS => by rcases hT k hkS with h1 | h1; exact hkT h1; omega)⟩
theorem Fr.blk {b : Nat} {c : Array Value} {t : TypeId} (h : Fr S w w') (hb : Blk w b c t) (hS : b ∉ S) : Blk w' b c t := hb.heap (h.block b hb.lt hS)
theorem Fr.grown {row : Option Nat} (hg : w.grownBy w' row) (h : ∀ k, row = some k → k ∈ S) : Fr S w w' :=
  ⟨hg.os, hg.tape, hg.output, hg.size, fun k hk hS => hg.block k hk (fun e => hS (h k e.symm))⟩
theorem Fr.below {B : Nat} (h : Fr S w w') (hS : ∀ k ∈ S, B ≤ k) (hB : B ≤ w.heap.size) : Below B w w' :=
  ⟨h.os, h.tape, h.output, h.size, fun k hk => h.block k (by omega) (fun hkS => by have := hS k hkS; omega)⟩
theorem Fr.cell {a : Addr} {v : Value} (h : Fr S w w') (hc : w.cell? a = some v) (hS : a.block ∉ S) : w'.cell? a = some v :=
  (World.cell?_of_block (h.block a.block (World.block_lt_of_cell? w a hc) hS)).trans hc
end

/-- A contract of a callee that turns nothing at all, met in a world after draws. -/
theorem quiet_eq {P : Program} {f : FuncId} {args : Array Value} {w : World} {n : Nat} {v : Value}
    (h : Calls P f args (w.drewN n) fun e w' => e = .returned v ∧ w.drewN n = w') : Calls P f args (w.drewN n) fun e w'' => e = .returned v ∧ ∃ m, w'' = w.drewN m :=
  h.mono fun _ _ ⟨he, hm⟩ => ⟨he, n, hm.symm⟩

/-- A region that draws its order: reads, then operations whose order is forced. -/
theorem wp_tail {P : Program} {id : Nat} {Q : Exit → Act → World → Prop} {a : Act} {w : World} {l : List Oper} (n : Nat) (hm : P.follows .mixedOrders = true) (hB : Region.lexTailB .any l.toArray n = true)
    (h : wpStill P l.toArray w.drew (fun a' => wpList P l.toArray Q (l.drop n) a' w.drew) (l.take n) a) : (Code.region id l.toArray true).wp P Q a w :=
  wp_region_still_tail n hm hB h

section
variable {S : List Nat} {w w0 : World}
theorem Fr.drewN' (h : Fr S w0 w) (n : Nat) : Fr S w0 (w.drewN n) := h.same (Fr.drewN S w n)
theorem Fr.drew' (h : Fr S w0 w) : Fr S w0 w.drew := h.drewN' 1
theorem Fr.set' {a : Addr} (h : Fr S w0 w) (v : Value) (ha : a.block ∈ S) : Fr S w0 (w.setCell a v) := h.same (Fr.set v ha)
theorem Fr.setNew {a : Addr} (h : Fr S w0 w) (v : Value) (ha : w0.heap.size ≤ a.block) : Fr S w0 (w.setCell a v) :=
  h.trans (T := [a.block]) (Fr.set v (by simp)) (fun k hk => .inr (by simp at hk; omega))
theorem Fr.alloc' (h : Fr S w0 w) (o : Obj) : Fr S w0 (w.alloc o) := h.same (Fr.alloc S w o)
/-- What a store makes of a block. -/
def putObj (a : Addr) (v : Value) : Obj → Obj
  | .cells c e fr => .cells (if a.spot.isSome then c else c.setIfInBounds a.off v) e fr
  | o => o
theorem at_setCell (w : World) (a : Addr) (v : Value) (k : Nat) : (w.setCell a v).heap[k]? = if k = a.block then (w.heap[k]?).map (putObj a v) else w.heap[k]? := by
  simp only [World.setCell, Array.getElem?_modify]
  by_cases h : k = a.block
  · subst h; simp only [if_true]
    congr 1
  · rw [if_neg h, if_neg (fun e => h e.symm)]
theorem at_drewN (w : World) (n k : Nat) : (w.drewN n).heap[k]? = w.heap[k]? := by simp [World.drewN]
theorem at_drew (w : World) (k : Nat) : w.drew.heap[k]? = w.heap[k]? := rfl
theorem at_alloc (w : World) (o : Obj) (k : Nat) : (w.alloc o).heap[k]? = if k = w.heap.size then some o else w.heap[k]? := by
  show (w.heap.push o)[k]? = _
  rw [Array.getElem?_push]
theorem Blk.intro {b : Nat} {c : Array Value} {t : TypeId} (h : w.heap[b]? = some (.cells c t (0, 0))) : Blk w b c t := h
theorem Blk.out {b : Nat} {c : Array Value} {t : TypeId} (h : Blk w b c t) : w.heap[b]? = some (.cells c t (0, 0)) := h
end
end Go.Proofs.YthigfpaajbejdaaGreatDoor
