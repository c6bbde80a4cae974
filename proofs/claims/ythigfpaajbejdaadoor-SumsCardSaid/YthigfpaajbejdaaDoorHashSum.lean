/-
  check.Hash.Sum, walked.
-/
import Derived.Test.YthigfpaajbejdaaDoorRefSum
namespace Go.Proofs.YthigfpaajbejdaaDoor
open Go.RowKit

section
variable {P : Program} (w : World)
theorem run_append_nil_win (B : Nat) (t ty : TypeId) (i : TypeInfo) (ht : P.underlying t = some (.slice 5)) (hi : P.info? 5 = some i) (hz : i.zero = some (.int .u8 0))
    (hsize : i.size = 1) (hby : i.bytes = 1) (v : Value) (xs : List Value) (hwin : WinP B w v xs) (h1 : ∀ u ∈ xs, u.oneCell' = true) (hbytes : xs.length ≤ 140737488355328) :
    ∃ v' w', (Builtin.append_ #[t, t] ty #[.slice none 0 0, v]).run P w = .ok v' w' ∧ OwnB w.heap.size w' v' xs ∧ Fr [] w w' := by
  rcases hwin with ⟨rfl, rfl⟩ | ⟨g, off, cap, cur, rfl, hbg, hg, hnc, hcm, hcs, htake⟩
  · refine ⟨.slice none 0 0, w, ?_, OwnB.nil _ _, Fr.refl _ _⟩
    simp [Builtin.append_, run_underlying ht, sizeOf, typeInfo, hi, Builtin.lenOf, Builtin.firstCells]
  · obtain ⟨v', w', hr, h2, h3, h4⟩ := run_append_b (P := P) w w.heap.size t ty i ht hi hz hsize hby (.slice none 0 0) [] (OwnB.nil _ _) ⟨g, off, none⟩ xs.length cap xs rfl
      (fun j u hj => by rw [Go.WideShapes.add_plain]; exact WinP.cell (base := B) (.inr ⟨g, off, cap, cur, rfl, hbg, hg, hnc, hcm, hcs, htake⟩) j u hj) h1 (by simpa using hbytes) (Nat.le_refl _)
    exact ⟨v', w', hr, h2, h3⟩

theorem wpList_append_nil_win {ops : Array Oper} {rest : List Oper} {o : Oper} {a : Act} {Q : Exit → Act → World → Prop} (hgd : o.guard = none) (sl x : Operand) (t : TypeId)
    (ho : o.op = .call { callee := .builtin .append, args := #[sl, x], argTypes := #[t, t] })
    (B : Nat) (i : TypeInfo) (ht : P.underlying t = some (.slice 5)) (hi : P.info? 5 = some i) (hz : i.zero = some (.int .u8 0))
    (hsize : i.size = 1) (hby : i.bytes = 1) (hs : a.eval sl = .slice none 0 0)
    (v : Value) (xs : List Value) (hx : a.eval x = v) (hwin : WinP B w v xs) (h1 : ∀ u ∈ xs, u.oneCell' = true) (hbytes : xs.length ≤ 140737488355328)
    (h : ∀ v' w', OwnB w.heap.size w' v' xs → Fr [] w w' → wpList P ops Q rest (a.put o.dst v') w') : wpList P ops Q (o :: rest) a w := by
  refine wpList_plain hgd fun K hK => ?_
  obtain ⟨v', w', hr, h2, h3⟩ := run_append_nil_win (P := P) w B t o.type i ht hi hz hsize hby v xs hwin h1 hbytes
  unfold Oper.wp execOp
  simp only [ho, resolve, invoke, builtin, Sem.run_bind, Sem.run_pure, Result.andThen_ok, List.map_toArray, List.map_cons, List.map_nil, hs, hx, hr]
  exact hK _ _ (h v' w' h2 h3)
end
theorem seg_one (l : Nat → Nat) (o k : Nat) : ∀ u ∈ seg l o k, u.oneCell' = true := by
  intro u hu
  unfold seg at hu
  obtain ⟨i, _, rfl⟩ := List.mem_map.1 hu
  rfl

theorem seg_snoc_at (l : Nat → Nat) (o m : Nat) (k : Int) (hk : k = (l (o + m) : Int)) : seg l o m ++ [.int .u8 k] = seg l o (m + 1) := by
  rw [← seg_append l o m 1, hk]; rfl
theorem seg_congr_at {l l' : Nat → Nat} {o k : Nat} (h : ∀ i, i < k → l (o + i) = l' (o + i)) : seg l o k = seg l' o k :=
  seg_ext (seg_length _ _ _) (fun i hi => by rw [seg_get _ _ _ _ hi, h i hi])
theorem outu_sel {w : World} {gb : Nat} {st : Md.St} {rest n : Value} (h : HashB w gb st rest n) (hok : st.ok) (k : Nat) (hk : k < 16) :
    ∃ x : Nat, w.cell? ⟨gb, k / 4, none⟩ = some (.int .u32 x) ∧ Md.out st k = x / 2 ^ (8 * (k % 4)) % 256 ∧ x < 4294967296 := by
  have hc := h.blk.cell
  rw [hc (k / 4)]
  obtain ⟨o1, o2, o3, o4⟩ := hok
  rcases (by omega : k / 4 = 0 ∨ k / 4 = 1 ∨ k / 4 = 2 ∨ k / 4 = 3) with e | e | e | e <;> unfold Md.out <;> rw [e]
  · exact ⟨st.a, rfl, rfl, o1⟩
  · exact ⟨st.b, rfl, rfl, o2⟩
  · exact ⟨st.c, rfl, rfl, o3⟩
  · exact ⟨st.d, rfl, rfl, o4⟩
/-- What is summed behind the whole blocks of 64. -/
structure Tail (l P : Nat → Nat) (q R T : Nat) : Prop where
  pad : P = Md.padded l (64 * q + R)
  low : R < 64
  lim : R < T ∧ T ≤ 120 ∧ T % 64 = 56
  far : ∀ k, R < k → k % 64 = 56 → k < T → False
  full : 64 * q + T + 8 = 64 * Md.full (64 * q + R)
  same : seg l (64 * q) R = seg P (64 * q) R
  one : P (64 * q + R) = 128
  nil : ∀ k, R < k → k < T → P (64 * q + k) = 0
  len : ∀ j, P (64 * q + (T + j)) = 8 * (64 * q + R) / 2 ^ (8 * j) % 256
theorem Tail.mk' (l : Nat → Nat) (q R : Nat) (hR : R < 64) : Tail l (Md.padded l (64 * q + R)) q R (64 * ((R + 8) / 64) + 56) := by
  have e : 64 * ((64 * q + R + 8) / 64) = 64 * q + 64 * ((R + 8) / 64) := by omega
  refine ⟨rfl, hR, ⟨by omega, by omega, by omega⟩, fun k h1 h2 h3 => by omega, by unfold Md.full; omega, ?_, padded_one _ _, fun k h1 h2 => padded_nil _ (by omega) (by omega), fun j => ?_⟩
  · exact seg_congr_at (fun i hi => (padded_low _ (by omega)).symm)
  · rw [show 64 * q + (64 * ((R + 8) / 64) + 56 + j) = 64 * ((64 * q + R + 8) / 64) + 56 + j by omega]
    exact padded_len _ _ _

set_option maxRecDepth 100000 in
set_option maxHeartbeats 2000000 in
theorem hsum_of {B : Nat} {w : World} {hb : Nat} {l P : Nat → Nat} {q R T : Nat} {v : Value} (hl : ∀ i, l i < 256) (hT : Tail l P q R T) (hh : HashB w hb (Md.runs P Md.start q) v (.int .u64 ((64 * q + R : Nat) : Int))) (hw : WinP B w v (seg l (64 * q) R)) (hsm : 64 * q + R ≤ 1048576) (hg : MdGl w) :
    Calls Tryd.prog 29 #[.pointer (some ⟨hb, 0, none⟩)] w fun e w' => (∃ r : ByteArray, e = .returned (.string r) ∧ txt r = Md.sum l (64 * q + R)) ∧ Fr [] w w' := by
  obtain ⟨i0, hi, hz0, hz1, hz2⟩ := info_parts u8info'
  obtain ⟨av, pv, rfl, hcapv, hadrv, hcmv⟩ := hw.forms
  have hR : R < 64 := hT.low
  have hPl : ∀ i, P i < 256 := fun i => by rw [hT.pad]; exact Md.padded_lt hl _ i
  have hok := Md.runs_ok P Md.start_ok q
  have hTl := hT.lim
  obtain ⟨hT1, hT2, hT3⟩ := hTl
  have hT' := Hid.mk' hT
  have hg' := Hid.mk' hg
  have hPl' := Hid.mk' hPl
  obtain ⟨st, hst⟩ : ∃ st, st = Md.runs P Md.start q := ⟨_, rfl⟩
  rw [← hst] at hh hok
  have hst' := Hid.mk' hst
  clear hst hT hg hPl hT3
  obtain ⟨s0, s1, s2, s3⟩ := st
  have hh0 : Blk w hb #[.int .u32 s0, .int .u32 s1, .int .u32 s2, .int .u32 s3, .slice av R pv, .int .u64 ((64 * q + R : Nat) : Int)] 117 := hh
  have hc := hh0.cell
  have hF1 := Fr.alloc [] w (.cells #[.int .u32 s0, .int .u32 s1, .int .u32 s2, .int .u32 s3, .slice none 0 0, .int .u64 0] 117)
  have hh1 := hF1.blk hh0 (by simp)
  have hc1 := hh1.cell
  have hn1 : HashB (w.alloc (.cells #[.int .u32 s0, .int .u32 s1, .int .u32 s2, .int .u32 s3, .slice none 0 0, .int .u64 0] 117)) w.heap.size ⟨s0, s1, s2, s3⟩ (.slice none 0 0) (.int .u64 0) := Blk.new w _ _
  have hw1 := hw.keep hF1 (by simp)
  have hlen0 : (seg l (64 * q) R).length ≤ 140737488355328 := by rw [seg_length]; omega
  have hsame : Hid (seg l (64 * q) R = seg P (64 * q) R) := hT'.out.same
  have hsg : Hid (seg P (64 * q) R ++ [Value.int .u8 128] = seg P (64 * q) (R + 1)) := seg_snoc_at P (64 * q) R 128 (by rw [hT'.out.one]; rfl)
  have hlP : (seg P (64 * q) R).length ≤ 1048700 := by rw [seg_length]; omega
  have hgB : Hid (1 < w.heap.size ∧ 2 < w.heap.size) := ⟨World.block_lt_of_cell? w _ (hg'.out.adds 0 (by decide)), World.block_lt_of_cell? w _ (hg'.out.turns 0 (by decide))⟩
  have hgb0 : Hid (w.heap.size < (w.alloc (.cells #[.int .u32 s0, .int .u32 s1, .int .u32 s2, .int .u32 s3, .slice none 0 0, .int .u64 0] 117)).heap.size) := hn1.blk.lt
  clear hh hh0 hw
  go_enter Tryd.func29, Tryd.ntmps29
  go_wp2_with (first
    | (at_builtin; refine wpList_append_nil_win _ rfl (.const (.slice none 0 0)) (.tmp 17) 48 rfl B i0 Tryd.underlying48 hi hz0 hz1 hz2 rfl _ _ rfl hw1 (seg_one _ _ _) hlen0 ?nxA; intro v2 w2 how2 hf2; rw [hsame.out] at how2; obtain ⟨a2, p2, rfl, hcap2, hadr2, hcm2⟩ := how2.forms; have hb2 := hf2.size)
    | (at_builtin; refine wpList_append_one w2 rfl (.tmp 19) (.tmp 20) rfl _ (.slice a2 R p2) _ rfl how2 128 rfl hlP hb2 ?nxB; intro v3 w3 how3 hf3 _; rw [hsg.out] at how3; obtain ⟨a3, p3, rfl, hcap3, hadr3, hcm3⟩ := how3.forms))
  have hF3 := fr_own hf2 rfl (fun g hg => (how2.lt g hg).1) hf3
  clear how2 hf3 hf2 hb2 hcap2 hadr2 hcm2 hc hw1 hlen0 hsame hsg hlP
  generalize w.alloc (.cells #[.int .u32 s0, .int .u32 s1, .int .u32 s2, .int .u32 s3, .slice none 0 0, .int .u64 0] 117) = w1 at *
  generalize hgbe : w.heap.size = gb at *
  have hgbw := Hid.mk' hgbe
  clear hgbe
  go_loopg [4] (T - (R + 1)) (fun g s4 wx => ∃ k : Nat, g = T - k ∧ R < k ∧ k ≤ T ∧ OwnB w1.heap.size wx s4 (seg P (64 * q) k) ∧ Fr [] w1 wx)
  case atStart => exact ⟨R + 1, rfl, by omega, by omega, how3, hF3⟩
  case round =>
    obtain ⟨k, hg, hk1, hk2, how, hF⟩ := hrel
    have hG := Hid.mk' hg
    clear hg how3 hF3
    obtain ⟨a3, p3, rfl, hcap3, hadr3, hcm3⟩ := how.forms
    have hb1 : (seg P (64 * q) k).length ≤ 1048700 := by rw [seg_length]; omega
    have hb2 : w1.heap.size ≤ wr.heap.size := hF.size
    have e1 : ((k : Int)).tmod 64 = (k : Int) % 64 := Int.tmod_eq_emod_of_nonneg (by omega)
    by_cases hT : k = T
    · subst hT
      have e2 : ((k : Int) % 64 == 56) = true := by have := hT'.out.lim; simp; omega
      clear hb1 hk2
      go_wp2_with fail
      have e3 : ((k : Int) % 64 != 56) = false := by rw [bne, e2]; rfl
      rw [e3]
      clear e1 e2 e3
      go_loopg [29, 4] 8 (fun g s29 s4 wx => ∃ j : Nat, g = 8 - j ∧ j ≤ 8 ∧ s29 = .int .i64 j ∧ OwnB w1.heap.size wx s4 (seg P (64 * q) (k + j)) ∧ Fr [] w1 wx)
      case atStart => exact ⟨0, rfl, by omega, rfl, how, hF⟩
      case round =>
        obtain ⟨j, hg5, hj, rfl, how5, hF5⟩ := hrel
        have hG5 := Hid.mk' hg5
        clear hg5 how hF hb2
        obtain ⟨a5, p5, rfl, hcap5, hadr5, hcm5⟩ := how5.forms
        have hh5 := hF5.blk hh1 (by simp)
        have hc5 := hh5.cell
        by_cases hlj : j < 8
        · have hlj' : (j : Int) < 8 := by omega
          have hb1 : (seg P (64 * q) (k + j)).length ≤ 1048700 := by rw [seg_length]; omega
          have hb3 : w1.heap.size ≤ wr.heap.size := hF5.size
          have f1 : (8 * (j : Int)).toNat = 8 * j := by omega
          have f2 : (0 : Int) ≤ 8 * (j : Int) := by omega
          have hv : Hid ((8 * (64 * (q : Int) + (R : Int))) / 2 ^ (8 * j) % 256 = ((P (64 * q + (k + j)) : Nat) : Int)) := by
            unfold Hid
            rw [hT'.out.len j]
            simp
          have hsg5 : Hid (seg P (64 * q) (k + j) ++ [Value.int .u8 ((8 * (64 * (q : Int) + (R : Int))) / 2 ^ (8 * j) % 256)] = seg P (64 * q) (k + (j + 1))) := seg_snoc_at P (64 * q) (k + j) _ hv.out
          go_wp2_with (at_builtin; refine wpList_append_one wr rfl (.tmp 32) (.tmp 42) rfl w1.heap.size (.slice a5 (k + j) p5) _ rfl how5 _ rfl hb1 hb3 ?nextC; intro v4 w4 how4 hf4 _; rw [hsg5.out] at how4; obtain ⟨a4, p4, rfl, hcap4, hadr4, hcm4⟩ := how4.forms)
          go_roundg (8 - (j + 1))
          case measure => have := hG5.out; omega
          case rel => exact ⟨j + 1, rfl, by omega, by go_num, how4, fr_own hF5 rfl (fun g hg => (how5.lt g hg).1) hf4⟩
        · obtain rfl : j = 8 := by omega
          go_wp2_with fail
          obtain ⟨tg, rfl⟩ := hadr5 (by omega)
          obtain ⟨htg1, htg2⟩ := how5.lt tg rfl
          have hcell : Hid (∀ i, i < k + 8 → wr.cell? ⟨tg, i, none⟩ = some (.int .u8 (P (64 * q + i)))) := fun i hi => how5.cell i _ (seg_get P (64 * q) (k + 8) i hi)
          have hn5 : HashB wr gb ⟨s0, s1, s2, s3⟩ (.slice none 0 0) (.int .u64 0) := hF5.blk hn1.blk (by simp)
          have hn5' : HashB wr gb (Md.runs P Md.start (q + 0)) (.slice none 0 0) (.int .u64 0) := by rw [Nat.add_zero, ← hst'.out]; exact hn5
          have hfull : Hid (64 * q + k + 8 = 64 * Md.full (64 * q + R)) := hT'.out.full
          have hF6 : Fr [] w wr := hF1.same hF5
          have hgl : Hid (∀ wx, Fr [gb] wr wx → MdGl wx) := fun wx hf => (hg'.out.keep hF6 (by simp) (by simp)).keep hf (by have := hgB.out; simp; omega) (by have := hgB.out; simp; omega)
          have htgb : tg ≠ gb := by have := hgb0.out; omega
          clear hn5 how5 hc5 hh5 hc1 hh1
          obtain ⟨n8, hn8⟩ : ∃ n8, n8 = k + 8 := ⟨_, rfl⟩
          rw [← hn8] at hcell hcap5 ⊢
          have hn8' := Hid.mk' hn8
          clear hn8
          have hw0 : Fr [gb] wr wr := Fr.refl _ _
          generalize wr = w0 at hcell hgl hw0 hF6 hF5 htg2 hn5' ⊢
          clear hg' hgB hF1 hn1
          go_loopg [4] n8 (fun g s4 wx => ∃ (c X : Nat) (a4 : Option Addr) (p4 : Nat), g = X ∧ Hid (64 * c + X = n8) ∧ s4 = .slice a4 X p4 ∧ Hid (X ≤ p4) ∧ Hid (0 < X → a4 = some ⟨tg, 64 * c, none⟩) ∧ HashB wx gb (Md.runs P Md.start (q + c)) (.slice none 0 0) (.int .u64 0) ∧ Fr [gb] w0 wx)
          case atStart => exact ⟨0, n8, _, _, rfl, (by unfold Hid; omega), rfl, hcap5, fun _ => rfl, hn5', hw0⟩
          case round =>
            obtain ⟨c, X, a4, p4, hg7, hX, rfl, hp4, ha4, hh7, hF7⟩ := hrel
            have hG7 := Hid.mk' hg7
            clear hg7 hn5' hw0 hcap5
            by_cases hX0 : 0 < X
            · have hm64 : X % 64 = 0 ∧ 64 ≤ X := by have := hX.out; have := hn8'.out; have := hfull.out; omega
              have hX64 : 64 ≤ X := hm64.2
              have hX0' : (0 : Int) < (X : Int) := by omega
              have hX64' : (64 : Int) ≤ (X : Int) := by omega
              obtain rfl := ha4.out hX0
              have hp64 : (64 : Int) ≤ (p4 : Int) := by have := hp4.out; omega
              have hbc := Hid.mk' (block_any (cap := p4) (sb := tg) (off := 64 * c) (o := 64 * q + 64 * c) (Md.runs_ok P Md.start_ok (q + c)) hPl'.out hh7 (hgl.out _ hF7) (fun i hi => by
                have := hF7.cell (hcell.out (64 * c + i) (by have := hX.out; omega)) (by simpa using htgb)
                rw [Nat.add_assoc]
                exact this))
              have hnx : Hid (Md.runs P Md.start (q + (c + 1)) = Md.block (Md.word P (64 * q + 64 * c)) (Md.runs P Md.start (q + c))) := by
                unfold Hid
                rw [show 64 * q + 64 * c = 64 * (q + c) by omega]
                rfl
              clear hm64
              by_cases hp : p4 = 64
              · subst hp
                go_wp2_with (go_at_call 45; (with_reducible refine (hbc.out).mono ?_); rintro e w7 ⟨rfl, hh8, hf8⟩)
                go_roundg (X - 64)
                case measure => have := hG7.out; omega
                case rel =>
                  have hX1 : X = 64 := by have := hp4.out; omega
                  subst hX1
                  exact ⟨c + 1, 0, _, 0, rfl, (by have := hX.out; unfold Hid; omega), rfl, Nat.le_refl _, fun h => absurd h (by omega), by rw [hnx.out]; exact hh8, hF7.same hf8⟩
              · have hpp : (64 : Int) < (p4 : Int) := by omega
                go_wp2_with (go_at_call 45; (with_reducible refine (hbc.out).mono ?_); rintro e w7 ⟨rfl, hh8, hf8⟩)
                go_roundg (X - 64)
                case measure => have := hG7.out; omega
                case rel => exact ⟨c + 1, X - 64, _, _, rfl, (by have := hX.out; unfold Hid; omega), rfl, (by have := hp4.out; unfold Hid; omega), fun _ => rfl, by rw [hnx.out]; exact hh8, hF7.same hf8⟩
            · obtain rfl : X = 0 := by omega
              have hsk := Md.runs_ok P Md.start_ok (q + c)
              have hfin : Hid (q + c = Md.full (64 * q + R)) := by have := hX.out; have := hn8'.out; have := hfull.out; unfold Hid; omega
              have hpad : Hid (P = Md.padded l (64 * q + R)) := hT'.out.pad
              have hmk := made16 wr
              go_wp2_with fail
              have hO0 := OutB.made wr (Md.out (Md.runs P Md.start (q + c)))
              have hF10 := Fr.alloc [] wr (.cells (madeCells #[Value.int .u8 0] 16) 5)
              have hgbl := hh7.blk.lt
              have hob : gb ≠ wr.heap.size := by omega
              have hh10 : HashB (wr.alloc (.cells (madeCells #[Value.int .u8 0] 16) 5)) gb (Md.runs P Md.start (q + c)) (.slice none 0 0) (.int .u64 0) := hF10.blk hh7.blk (by simp)
              have hF11 : Fr [] w (wr.alloc (.cells (madeCells #[Value.int .u8 0] 16) 5)) := (hF6.trans hF7 (fun x hx => .inr (by rw [List.mem_singleton] at hx; rw [hx, ← hgbw.out]; exact Nat.le_refl _))).same hF10
              have hobw : Hid (w.heap.size ≤ wr.heap.size) := by have := hgbw.out; unfold Hid; omega
              clear hmk hF10 hh7 hF7
              generalize wr.alloc (.cells (madeCells #[Value.int .u8 0] 16) 5) = w10 at *
              generalize wr.heap.size = ob at *
              go_loopg [57] 16 (fun g s57 wx => ∃ i : Nat, g = 16 - i ∧ i ≤ 16 ∧ s57 = .int .i64 i ∧ OutB wx ob (Md.out (Md.runs P Md.start (q + c))) i ∧ Fr [ob] w10 wx)
              case atStart => exact ⟨0, rfl, by omega, rfl, hO0, Fr.refl _ _⟩
              case round =>
                obtain ⟨i, hg9, hi16, rfl, hO, hF12⟩ := hrel
                have hG9 := Hid.mk' hg9
                clear hg9 hO0
                by_cases hlk : i < 16
                · have hlk' : (i : Int) < 16 := by omega
                  obtain ⟨x, hx, hox, hxl⟩ := outu_sel (hF12.blk hh10.blk (by simpa using hob)) hsk i hlk
                  obtain ⟨v9, hv9, hz9⟩ := hO.there i hlk
                  have a1 : ((i : Int)).tdiv 4 = (i : Int) / 4 := Int.tdiv_eq_ediv_of_nonneg (by omega)
                  have a2 : ((i : Int)).tmod 4 = (i : Int) % 4 := Int.tmod_eq_emod_of_nonneg (by omega)
                  have a7 : (8 * ((i : Int) % 4)).toNat = 8 * (i % 4) := by omega
                  have a8 : (0 : Int) ≤ 8 * ((i : Int) % 4) := by omega
                  have hox' := Hid.mk' hox
                  clear hox
                  go_wp2_with fail
                  go_roundg (16 - (i + 1))
                  case measure => have := hG9.out; omega
                  case rel => exact ⟨i + 1, rfl, by omega, by go_num, hO.set hlk _ (congrArg (Value.int .u8) (by rw [hox'.out]; simp)), hF12.set' _ (List.mem_singleton.2 rfl)⟩
                · obtain rfl : i = 16 := by omega
                  have hcv := conv16 hO (Md.out_lt _)
                  go_wp2_with fail
                  go_ret
                  refine ⟨⟨_, rfl, ?_⟩, ?_⟩
                  · rw [txt_text16 _ (Md.out_lt _), hfin.out, hpad.out]; rfl
                  · exact hF11.trans hF12 (fun x hx => .inr (by rw [List.mem_singleton] at hx; rw [hx]; exact hobw.out))
    · have e2 : ((k : Int) % 64 == 56) = false := by
        have hne : ¬ k % 64 = 56 := fun h => hT'.out.far k hk1 h (by omega)
        simp; omega
      have hsg3 : Hid (seg P (64 * q) k ++ [Value.int .u8 0] = seg P (64 * q) (k + 1)) := seg_snoc_at P _ k 0 (by rw [hT'.out.nil k hk1 (by omega)]; rfl)
      go_wp2_with (at_builtin; refine wpList_append_one wr rfl (.tmp 26) (.tmp 27) rfl w1.heap.size (.slice a3 k p3) _ rfl how 0 rfl hb1 hb2 ?nextB; intro v4 w4 how4 hf4 _; rw [hsg3.out] at how4; obtain ⟨a4, p4, rfl, hcap4, hadr4, hcm4⟩ := how4.forms)
      go_roundg (T - (k + 1))
      case measure => have := hG.out; omega
      case rel => exact ⟨k + 1, rfl, by omega, by omega, how4, fr_own hF rfl (fun g hg => (how.lt g hg).1) hf4⟩
/-- Sum tells the sum of what has been taken. -/
theorem hsum_any {B : Nat} {w : World} {hb : Nat} {l : Nat → Nat} {n : Nat} {v : Value} (hl : ∀ i, l i < 256) (h : HashV B w hb l n v) (hg : MdGl w) :
    Calls Tryd.prog 29 #[.pointer (some ⟨hb, 0, none⟩)] w fun e w' => (∃ r : ByteArray, e = .returned (.string r) ∧ txt r = Md.sum l n) ∧ Fr [] w w' := by
  obtain ⟨q, R, hR, rfl⟩ : ∃ q R, R < 64 ∧ n = 64 * q + R := ⟨n / 64, n % 64, by omega, by omega⟩
  have e1 : (64 * q + R) / 64 = q := by omega
  have e2 : 64 * q + R - 64 * ((64 * q + R) / 64) = R := by omega
  have hh := h.hash
  have hw := h.win
  rw [e2, e1] at hw
  rw [e1, Md.runs_congr (l' := Md.padded l (64 * q + R)) Md.start q (fun i hi => (padded_low l (by omega)).symm)] at hh
  exact hsum_of hl (Tail.mk' l q R hR) hh hw h.small hg
end Go.Proofs.YthigfpaajbejdaaDoor
