/-
  append of a string to a window of one's own bytes: a slice that need not begin at its row's head.
-/
import Derived.Test.YthigfpaajbejdaaDoorBase
import Derived.Test.YthigfpaajbejdaaDoorProg
import Derived.Lib.AppendStr
import Derived.Laws.CopyRow
namespace Go.Proofs.YthigfpaajbejdaaDoor
open Go.RowKit

/-- v is a window of the cells xs, in a block from base on, all of it one's own. -/
def WinP (base : Nat) (w : World) (v : Value) (xs : List Value) : Prop :=
  (v = .slice none 0 0 ∧ xs = []) ∨ ∃ (g off cap : Nat) (cur : Array Value), v = .slice (some ⟨g, off, none⟩) xs.length cap ∧ base ≤ g ∧ w.heap[g]? = some (.cells cur 5 (0, 0)) ∧ xs.length ≤ cap ∧ cap ≤ maxLen ∧ off + cap ≤ cur.size ∧ (cur.toList.drop off).take xs.length = xs
theorem WinP.keep {base : Nat} {w w' : World} {S : List Nat} {v : Value} {xs : List Value} (h : WinP base w v xs) (hf : Fr S w w') (hS : ∀ g, v.ownBlock = some g → g ∉ S) : WinP base w' v xs := by
  rcases h with h | ⟨g, off, cap, cur, rfl, hb, hg, r⟩
  · exact .inl h
  · have hlt : g < w.heap.size := (Array.getElem?_eq_some_iff.1 hg).1
    exact .inr ⟨g, off, cap, cur, rfl, hb, (hf.block g hlt (hS g rfl)).trans hg, r⟩
theorem WinP.lt {base : Nat} {w : World} {v : Value} {xs : List Value} (h : WinP base w v xs) (g : Nat) (hg : v.ownBlock = some g) : base ≤ g ∧ g < w.heap.size := by
  rcases h with ⟨rfl, _⟩ | ⟨g', off, cap, cur, rfl, hb, hh, r⟩
  · cases hg
  · have : g' = g := Option.some.inj hg
    subst this
    exact ⟨hb, (Array.getElem?_eq_some_iff.1 hh).1⟩
theorem WinP.cell {base : Nat} {w : World} {g off n cap : Nat} {xs : List Value} (h : WinP base w (.slice (some ⟨g, off, none⟩) n cap) xs) (i : Nat) (x : Value) (hi : xs[i]? = some x) : w.cell? ⟨g, off + i, none⟩ = some x := by
  rcases h with ⟨h, _⟩ | ⟨g', off', cap', cur, h, _, hg, _, _, _, ht⟩
  · cases h
  · cases h
    have hlt : i < xs.length := (List.getElem?_eq_some_iff.1 hi).1
    rw [← ht, List.getElem?_take, if_pos hlt, List.getElem?_drop, Array.getElem?_toList] at hi
    simp [World.cell?, hg, hi]

section
variable {P : Program} (w : World)
theorem run_append_room_win (t u ty e : TypeId) (i : TypeInfo) (ht : P.underlying t = some (.slice e)) (hu : P.underlying u = some .string) (hi : P.info? e = some i) (hs1 : i.size = 1)
    (g off sLen sCap : Nat) (cur : Array Value) (hg : w.heap[g]? = some (.cells cur e (0, 0))) (s : ByteArray) (hroom : sLen + s.size ≤ sCap) (hfit : off + sLen + s.size ≤ cur.size) :
    (Builtin.append_ #[t, u] ty #[.slice (some ⟨g, off, none⟩) sLen sCap, .string s]).run P w =
      .ok (.slice (some ⟨g, off, none⟩) (sLen + s.size) sCap) (w.setRow g (cur.toList.take (off + sLen) ++ Lib.strCells s ++ cur.toList.drop (off + sLen + s.size)).toArray) := by
  have hf := Lib.run_firstCells_string (P := P) w 1 s
  have hst := run_storeCells_at P g (off + sLen) e (Lib.strCells s) 0 cur w hg (by simpa [Lib.strCells_length] using hfit) (Lib.strCells_oneCell s)
  simp only [Nat.add_zero, Lib.strCells_length] at hst
  simp [Builtin.append_, run_underlying ht, run_underlying hu, sizeOf, typeInfo, hi, hs1, Builtin.lenOf, hroom, hf, Go.WideShapes.add_plain, hst]
theorem run_append_win (base : Nat) (t u ty : TypeId) (i : TypeInfo) (ht : P.underlying t = some (.slice 5)) (hu : P.underlying u = some .string) (hi : P.info? 5 = some i) (hz : i.zero = some (.int .u8 0))
    (hsize : i.size = 1) (hby : i.bytes = 1) (v : Value) (xs : List Value) (hwin : WinP base w v xs) (s : ByteArray)
    (hbytes : xs.length + s.size ≤ 140737488355328) (hbase : base ≤ w.heap.size) :
    ∃ v' w', (Builtin.append_ #[t, u] ty #[v, .string s]).run P w = .ok v' w' ∧ WinP base w' v' (xs ++ Lib.strCells s) ∧ Fr v.ownBlock.toList w w' ∧
      (∀ g, v'.ownBlock = some g → v.ownBlock = some g ∨ w.heap.size ≤ g) := by
  rcases hwin with ⟨rfl, rfl⟩ | ⟨g, off, cap, cur, rfl, hbg, hg, hnc, hcm, hcs, htake⟩
  · obtain ⟨v', w', hr, h1, h2, _⟩ := Lib.run_append_own_string (P := P) w w.heap.size t u ty 5 i ht hu hi hz hsize hby (.slice none 0 0) 0 [] (World.ownsRow_nil w _ 5 1) s (by simp at hbytes; unfold maxLen; omega) (by simpa using hbytes) (Nat.le_refl _)
    refine ⟨v', w', hr, ?_, Fr.grown (S := []) h2 (fun k hk => by cases hk), fun g hg => ?_⟩
    · rcases h1.2 with ⟨rfl, h⟩ | ⟨g, cap, cur, rfl, hb, hg, hnc, hcm, hcs, htake⟩
      · exact .inl ⟨rfl, by simpa using List.eq_nil_of_length_eq_zero (by rw [Lib.strCells_length]; simpa using h)⟩
      · have hl : ([] ++ Lib.strCells s : List Value).length = 0 + s.size := by simpa using h1.1
        have hl' : (Lib.strCells s : List Value).length = 0 + s.size := by simpa using hl
        refine .inr ⟨g, 0, cap, cur, by rw [hl], Nat.le_trans hbase hb, hg, by rw [hl]; exact hnc, hcm, by simp at hcs; omega, ?_⟩
        rw [List.drop_zero, hl]; simpa using htake
    · rcases h1.2 with ⟨rfl, _⟩ | ⟨g', cap, cur, rfl, hb, _⟩
      · cases hg
      · have : g' = g := Option.some.inj hg
        exact .inr (this ▸ hb)
  · by_cases hroom : xs.length + s.size ≤ cap
    · have hr := run_append_room_win (P := P) w t u ty 5 i ht hu hi hsize g off xs.length cap cur hg s hroom (by omega)
      refine ⟨_, _, hr, .inr ⟨g, off, cap, _, by rw [List.length_append, Lib.strCells_length], hbg, setRow_heap w g cur _ 5 _ hg, by rw [List.length_append, Lib.strCells_length]; exact hroom, hcm, ?_, ?_⟩, ?_, fun g' hg' => .inl hg'⟩
      · simp only [List.size_toArray, List.length_append, List.length_take, List.length_drop, Array.length_toList, Lib.strCells_length]
        omega
      · have hlc : off ≤ cur.toList.length := by simp; omega
        have e1 : (cur.toList.take (off + xs.length)).drop off = xs := by
          rw [List.drop_take, show off + xs.length - off = xs.length by omega]; exact htake
        have hlt : off ≤ (cur.toList.take (off + xs.length)).length := by rw [List.length_take]; omega
        show List.take _ (List.drop off (cur.toList.take (off + xs.length) ++ Lib.strCells s ++ cur.toList.drop (off + xs.length + s.size))) = _
        rw [List.append_assoc, List.drop_append_of_le_length hlt, e1, ← List.append_assoc]
        exact List.take_left
      · refine ⟨rfl, rfl, rfl, by simp, fun k _ hk => setRow_other w g k _ (fun e => hk (by simp [Value.ownBlock, e]))⟩
    · have holds : ∀ j u, xs[j]? = some u → w.cell? ((⟨g, off, none⟩ : Addr).add j) = some u := fun j u hj => by
        rw [Go.WideShapes.add_plain]
        exact WinP.cell (base := base) (.inr ⟨g, off, cap, cur, rfl, hbg, hg, hnc, hcm, hcs, htake⟩) j u hj
      have hr := Lib.run_append_grow_string (P := P) w t u ty 5 i (.int .u8 0) ht hu hi hz ⟨g, off, none⟩ xs.length cap xs (by rw [hsize]; simp) holds s (by omega) (by omega) (by rw [hby]; exact growslice_fits (by omega) (by omega))
      have hge := grownCap_ge w (xs.length + s.size) cap 5
      have hcm' : grownCap w (xs.length + s.size) cap 5 ≤ maxLen := grownCap_le_maxLen w (xs.length + s.size) cap 5 (by unfold maxLen; omega)
      refine ⟨_, _, hr, .inr ⟨w.heap.size, 0, _, _, by rw [List.length_append, Lib.strCells_length], hbase, heap_alloc_new w.drew _, by rw [List.length_append, Lib.strCells_length]; exact hge, hcm', ?_, ?_⟩, ?_, fun g' hg' => .inr (Nat.le_of_eq (Option.some.inj hg'))⟩
      · have hz1 : (Value.int IntKind.u8 0).cells.size = 1 := rfl
        simp only [Array.size_append, List.size_toArray, size_zeroCells, hz1, Lib.strCells_length]
        omega
      · rw [List.drop_zero]
        simp only [Array.toList_append, List.append_assoc]
        rw [← List.append_assoc]
        exact List.take_left
      · exact ((Fr.refl _ w).drew').alloc' _

theorem wpList_append_win {ops : Array Oper} {rest : List Oper} {o : Oper} {a : Act} {Q : Exit → Act → World → Prop} (hgd : o.guard = none) (sl x : Operand) (t u : TypeId)
    (ho : o.op = .call { callee := .builtin .append, args := #[sl, x], argTypes := #[t, u] })
    (base : Nat) (i : TypeInfo) (ht : P.underlying t = some (.slice 5)) (hu : P.underlying u = some .string) (hi : P.info? 5 = some i) (hz : i.zero = some (.int .u8 0))
    (hsize : i.size = 1) (hby : i.bytes = 1)
    (v : Value) (xs : List Value) (hs : a.eval sl = v) (hwin : WinP base w v xs) (s : ByteArray) (hx : a.eval x = .string s)
    (hbytes : xs.length + s.size ≤ 140737488355328) (hbase : base ≤ w.heap.size)
    (h : ∀ v' w', WinP base w' v' (xs ++ Lib.strCells s) → Fr v.ownBlock.toList w w' → (∀ g, v'.ownBlock = some g → v.ownBlock = some g ∨ w.heap.size ≤ g) → wpList P ops Q rest (a.put o.dst v') w') : wpList P ops Q (o :: rest) a w := by
  refine wpList_plain hgd fun K hK => ?_
  obtain ⟨v', w', hr, h2, h3, h4⟩ := run_append_win (P := P) w base t u o.type i ht hu hi hz hsize hby v xs hwin s hbytes hbase
  unfold Oper.wp execOp
  simp only [ho, resolve, invoke, builtin, Sem.run_bind, Sem.run_pure, Result.andThen_ok, List.map_toArray, List.map_cons, List.map_nil, hs, hx, hr]
  exact hK _ _ (h v' w' h2 h3 h4)
end
end Go.Proofs.YthigfpaajbejdaaDoor
