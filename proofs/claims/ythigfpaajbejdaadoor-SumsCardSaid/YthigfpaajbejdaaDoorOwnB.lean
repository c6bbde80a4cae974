/-
  append of bytes to one's own bytes, told by cells alone: the row may bear a mark behind its end.
-/
import Derived.Test.YthigfpaajbejdaaDoorBase
import Derived.Test.YthigfpaajbejdaaDoorProg
import Derived.ArgAppend
import Derived.Maps.AppendAt
namespace Go.Proofs.YthigfpaajbejdaaDoor
open Go.RowKit

/-- v is a slice of one's own: the cells xs, and room behind them. -/
def OwnB (B : Nat) (w : World) (v : Value) (xs : List Value) : Prop :=
  (v = .slice none 0 0 ∧ xs = []) ∨ ∃ (g cap : Nat), v = .slice (some ⟨g, 0, none⟩) xs.length cap ∧ B ≤ g ∧ g < w.heap.size ∧ xs.length ≤ cap ∧ cap ≤ maxLen ∧
    (∀ i x, xs[i]? = some x → w.cell? ⟨g, i, none⟩ = some x) ∧ (∀ i, xs.length ≤ i → i < cap → (w.cell? ⟨g, i, none⟩).isSome = true ∧ w.frozen? ⟨g, i, none⟩ = false)
theorem OwnB.nil (B : Nat) (w : World) : OwnB B w (.slice none 0 0) [] := .inl ⟨rfl, rfl⟩
theorem OwnB.keep {B : Nat} {w w' : World} {S : List Nat} {v : Value} {xs : List Value} (h : OwnB B w v xs) (hf : Fr S w w') (hS : ∀ g, v.ownBlock = some g → g ∉ S) : OwnB B w' v xs := by
  rcases h with h | ⟨g, cap, rfl, hb, hg, h1, h2, h3, h4⟩
  · exact .inl h
  · have e := hf.block g hg (hS g rfl)
    refine .inr ⟨g, cap, rfl, hb, Nat.lt_of_lt_of_le hg hf.size, h1, h2, fun i x hi => ?_, fun i hi hc => ?_⟩
    · rw [World.cell?_of_block (a := ⟨g, i, none⟩) e]; exact h3 i x hi
    · rw [World.cell?_of_block (a := ⟨g, i, none⟩) e, World.frozen?_of_block (a := ⟨g, i, none⟩) e]; exact h4 i hi hc
theorem OwnB.lt {B : Nat} {w : World} {v : Value} {xs : List Value} (h : OwnB B w v xs) (g : Nat) (hg : v.ownBlock = some g) : B ≤ g ∧ g < w.heap.size := by
  rcases h with ⟨rfl, _⟩ | ⟨g', cap, rfl, hb, hh, _⟩
  · cases hg
  · have : g' = g := Option.some.inj hg
    subst this
    exact ⟨hb, hh⟩
theorem OwnB.cell {B : Nat} {w : World} {g n cap : Nat} {xs : List Value} (h : OwnB B w (.slice (some ⟨g, 0, none⟩) n cap) xs) (i : Nat) (x : Value) (hi : xs[i]? = some x) : w.cell? ⟨g, i, none⟩ = some x := by
  rcases h with ⟨h, _⟩ | ⟨g', cap', h, _, _, _, _, hc, _⟩
  · cases h
  · cases h
    exact hc i x hi
theorem OwnB.form {B : Nat} {w : World} {v : Value} {xs : List Value} (h : OwnB B w v xs) : ∃ a cap, v = .slice a xs.length cap ∧ xs.length ≤ cap ∧ (0 < xs.length → ∃ g, a = some ⟨g, 0, none⟩) ∧ cap ≤ maxLen := by
  rcases h with ⟨rfl, rfl⟩ | ⟨g, cap, rfl, _, _, h1, h2, _⟩
  · exact ⟨none, 0, rfl, Nat.le_refl _, fun h => absurd h (by simp), Nat.zero_le _⟩
  · exact ⟨_, cap, rfl, h1, fun _ => ⟨g, rfl⟩, h2⟩
theorem OwnB.ofRow {B : Nat} {w : World} {v : Value} {n : Nat} {xs : List Value} (h : w.ownsRow B 5 1 v n xs) : OwnB B w v xs := by
  obtain ⟨hl, h⟩ := h
  rw [Nat.mul_one] at hl
  rcases h with ⟨rfl, rfl⟩ | ⟨g, cap, cur, rfl, hb, hg, h1, h2, h3, h4⟩
  · exact .inl ⟨rfl, List.eq_nil_of_length_eq_zero hl⟩
  · rw [Nat.mul_one] at h3 h4
    have hblk : Blk w g cur 5 := hg
    refine .inr ⟨g, cap, by rw [hl], hb, hblk.lt, by omega, h2, fun i x hi => ?_, fun i hi hc => ⟨?_, hblk.frozen i⟩⟩
    · have hlt : i < xs.length := (List.getElem?_eq_some_iff.1 hi).1
      rw [hblk.cell i, ← hi, ← h4, List.getElem?_take, if_pos (by omega), Array.getElem?_toList]
    · rw [hblk.cell i, Array.getElem?_eq_getElem (by omega)]; rfl
theorem Fr.setCells (g : Nat) : ∀ (vs : List Value) (o : Nat) (w : World), Fr [g] w (w.setCells g o vs)
  | [], _, w => Fr.refl _ w
  | v :: vs, o, w => (Fr.set (S := [g]) (a := ⟨g, o, none⟩) v (List.mem_singleton.2 rfl)).same (Fr.setCells g vs (o + 1) _)

section
variable {P : Program} (w : World)
theorem run_append_b (B : Nat) (t ty : TypeId) (i : TypeInfo) (ht : P.underlying t = some (.slice 5)) (hi : P.info? 5 = some i) (hz : i.zero = some (.int .u8 0))
    (hsize : i.size = 1) (hby : i.bytes = 1) (v : Value) (xs : List Value) (hown : OwnB B w v xs) (ad : Addr) (m c : Nat) (news : List Value) (hl : news.length = m)
    (hnews : ∀ j u, news[j]? = some u → w.cell? (ad.add j) = some u) (h1 : ∀ u ∈ news, u.oneCell' = true)
    (hbytes : xs.length + m ≤ 140737488355328) (hbase : B ≤ w.heap.size) :
    ∃ v' w', (Builtin.append_ #[t, t] ty #[v, .slice (some ad) m c]).run P w = .ok v' w' ∧ OwnB B w' v' (xs ++ news) ∧ Fr v.ownBlock.toList w w' ∧
      (∀ g, v'.ownBlock = some g → v.ownBlock = some g ∨ w.heap.size ≤ g) := by
  have hm63 : (maxLen : Nat) ≤ 9223372036854775807 := by decide
  rcases hown with ⟨rfl, rfl⟩ | ⟨g, cap, rfl, hbg, hg, hnc, hcm, hc, hr⟩
  · obtain ⟨v', w', hr, h2, h3, _, h5⟩ := run_append_own_at (P := P) w B t ty 5 i (.int .u8 0) 1 1 ht hi hz hsize hby rfl (by decide) (.slice none 0 0) 0 [] (World.ownsRow_nil w _ 5 1) ad m c news (by rw [hl, Nat.mul_one]) hnews h1 (by simp at hbytes; unfold maxLen; omega) (by simpa using hbytes) hbase
    refine ⟨v', w', hr, OwnB.ofRow h2, Fr.grown (S := []) h3 (fun k hk => by cases hk), fun g hg => ?_⟩
    rcases h5 with h5 | h5
    · exact .inl (h5 ▸ hg)
    · rw [h5] at hg
      exact .inr (Nat.le_of_eq (Option.some.inj hg))
  · by_cases hroom : xs.length + m ≤ cap
    · have hr' := run_append_room_cells (P := P) w t ty 5 i ht hi g 0 xs.length cap ad m c news (by rw [hsize, Nat.mul_one]; exact hl) hnews h1 hroom
        (fun j hj => by rw [hsize, Nat.mul_one, Nat.zero_add]; exact (hr (xs.length + j) (by omega) (by omega)).1)
        (fun j hj => by rw [hsize, Nat.mul_one, Nat.zero_add]; exact (hr (xs.length + j) (by omega) (by omega)).2)
      rw [hsize, Nat.mul_one, Nat.zero_add] at hr'
      have hF := Fr.setCells g news xs.length w
      refine ⟨_, _, hr', .inr ⟨g, cap, by rw [List.length_append, hl], hbg, Nat.lt_of_lt_of_le hg hF.size, by rw [List.length_append]; omega, hcm, ?_, ?_⟩, hF, fun g' hg' => .inl hg'⟩
      · intro j x hx
        rcases Nat.lt_or_ge j xs.length with h | h
        · rw [List.getElem?_append_left h] at hx
          rw [World.cell?_setCells_out g news xs.length w ⟨g, j, none⟩ (fun _ _ => .inl h)]
          exact hc j x hx
        · rw [List.getElem?_append_right h] at hx
          obtain ⟨hlt, he⟩ := List.getElem?_eq_some_iff.1 hx
          have := World.cell?_setCells_in g news xs.length w (fun k hk => (hr (xs.length + k) (by omega) (by omega)).1) (j - xs.length) hlt
          rw [show xs.length + (j - xs.length) = j by omega] at this
          rw [this, he]
      · intro j hj hjc
        rw [List.length_append] at hj
        rw [World.cell?_setCells_out g news xs.length w ⟨g, j, none⟩ (fun _ _ => .inr hj), World.frozen?_setCells]
        exact hr j (by omega) hjc
    · have hr' := run_append_grow (P := P) w t ty 5 i (.int .u8 0) ht hi hz ⟨g, 0, none⟩ xs.length cap xs (by rw [hsize, Nat.mul_one]) (fun j u hj => by rw [Go.WideShapes.add_plain]; simpa using hc j u hj) ad m c news (by rw [hsize, Nat.mul_one]; exact hl) hnews (by omega) (by omega) (by rw [hby]; exact growslice_fits (by omega) (by omega))
      have hge := grownCap_ge w (xs.length + m) cap 5
      have hcm' : grownCap w (xs.length + m) cap 5 ≤ maxLen := grownCap_le_maxLen w (xs.length + m) cap 5 (by unfold maxLen; omega)
      refine ⟨_, _, hr', ?_, ((Fr.refl _ w).drew').alloc' _, fun g' hg' => .inr (Nat.le_of_eq (Option.some.inj hg'))⟩
      refine OwnB.ofRow (n := xs.length + m) ⟨by rw [List.length_append, hl, Nat.mul_one], .inr ⟨w.heap.size, _, _, rfl, hbase, heap_alloc_new w.drew _, hge, hcm', ?_, ?_⟩⟩
      · have hz1 : (Value.int IntKind.u8 0).cells.size = 1 := rfl
        simp only [Array.size_append, List.size_toArray, size_zeroCells, hz1]
        omega
      · rw [Nat.mul_one]
        simp only [Array.toList_append]
        rw [show xs.length + m = (xs ++ news).length by rw [List.length_append, hl]]
        exact List.take_left

theorem wpList_append_b {ops : Array Oper} {rest : List Oper} {o : Oper} {a : Act} {Q : Exit → Act → World → Prop} (hgd : o.guard = none) (sl x : Operand) (t : TypeId)
    (ho : o.op = .call { callee := .builtin .append, args := #[sl, x], argTypes := #[t, t] })
    (B : Nat) (i : TypeInfo) (ht : P.underlying t = some (.slice 5)) (hi : P.info? 5 = some i) (hz : i.zero = some (.int .u8 0))
    (hsize : i.size = 1) (hby : i.bytes = 1)
    (v : Value) (xs : List Value) (hs : a.eval sl = v) (hown : OwnB B w v xs) (ad : Addr) (m c : Nat) (news : List Value) (hx : a.eval x = .slice (some ad) m c) (hl : news.length = m)
    (hnews : ∀ j u, news[j]? = some u → w.cell? (ad.add j) = some u) (h1 : ∀ u ∈ news, u.oneCell' = true)
    (hbytes : xs.length + m ≤ 140737488355328) (hbase : B ≤ w.heap.size)
    (h : ∀ v' w', OwnB B w' v' (xs ++ news) → Fr v.ownBlock.toList w w' → (∀ g, v'.ownBlock = some g → v.ownBlock = some g ∨ w.heap.size ≤ g) → wpList P ops Q rest (a.put o.dst v') w') : wpList P ops Q (o :: rest) a w := by
  refine wpList_plain hgd fun K hK => ?_
  obtain ⟨v', w', hr, h2, h3, h4⟩ := run_append_b (P := P) w B t o.type i ht hi hz hsize hby v xs hown ad m c news hl hnews h1 hbytes hbase
  unfold Oper.wp execOp
  simp only [ho, resolve, invoke, builtin, Sem.run_bind, Sem.run_pure, Result.andThen_ok, List.map_toArray, List.map_cons, List.map_nil, hs, hx, hr]
  exact hK _ _ (h v' w' h2 h3 h4)
end
end Go.Proofs.YthigfpaajbejdaaDoor
