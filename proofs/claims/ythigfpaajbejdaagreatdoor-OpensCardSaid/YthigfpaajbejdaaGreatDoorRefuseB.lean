/-
  feed.Of: a feed that has fetched nothing.
-/
/-
  No such kind: Bits and Sums are refused, with ErrArg and its place.
-/
import Derived.Test.YthigfpaajbejdaaGreatDoorBase
import Derived.Test.YthigfpaajbejdaaGreatDoorProg
import Derived.Test.YthigfpaajbejdaaGreatDoorFaultW
namespace Go.Proofs.YthigfpaajbejdaaGreatDoor
open Go.RowKit

theorem feedOf_any (tv : Nat) (x : Value) (w : World) : Calls Tryz.prog 111 #[.iface tv x] w fun e w' => e = .returned (.pointer (some ⟨w.heap.size, 0, none⟩)) ∧ w' = w.alloc (.cells #[.iface tv x, .string ⟨#[]⟩, .nilIface, .slice none 0 0, .int .i64 0] 280) := by
  go_enter Tryz.func111, Tryz.ntmps111
  go_wp2
  go_ret
  exact ⟨rfl, rfl⟩
end Go.Proofs.YthigfpaajbejdaaGreatDoor
namespace Go.Proofs.YthigfpaajbejdaaGreatDoor
open Go.RowKit

section
variable {P : Program}
theorem results_tc {fn : Func} {t p : Tmp} {ty : TypeId} (h : fn.results = #[.tmp t, .cell p ty]) (tmps : Array Value) (w : World) (g : Nat) (t' : TypeId) (cs : Array Value) (fr : Nat × Nat) (d : TypeDesc)
    (hp : tmps.getD p undef = .pointer (some ⟨g, 0, none⟩)) (hg : w.heap[g]? = some (.cells cs t' fr))
    (hu : P.underlying ty = some d) (hd : (match d with | .struct _ | .array _ _ => true | _ => false) = true) (hi : (P.info? ty).map (·.size) = some cs.size) :
    (results fn tmps).run P w = .ok (.tuple #[tmps.getD t undef, .agg cs]) w := by
  have hp' : tmps[p]?.getD undef = .pointer (some ⟨g, 0, none⟩) := by simpa using hp
  simp [results, h, hp', asAddr, run_loadVar_row w g t' ty cs fr d hg hu hd hi, Sem.run_bind, Result.andThen]
theorem results_tttc {fn : Func} {t u v p : Tmp} {ty : TypeId} (h : fn.results = #[.tmp t, .tmp u, .tmp v, .cell p ty]) (tmps : Array Value) (w : World) (g : Nat) (t' : TypeId) (cs : Array Value) (fr : Nat × Nat) (d : TypeDesc)
    (hp : tmps.getD p undef = .pointer (some ⟨g, 0, none⟩)) (hg : w.heap[g]? = some (.cells cs t' fr))
    (hu : P.underlying ty = some d) (hd : (match d with | .struct _ | .array _ _ => true | _ => false) = true) (hi : (P.info? ty).map (·.size) = some cs.size) :
    (results fn tmps).run P w = .ok (.tuple #[tmps.getD t undef, tmps.getD u undef, tmps.getD v undef, .agg cs]) w := by
  have hp' : tmps[p]?.getD undef = .pointer (some ⟨g, 0, none⟩) := by simpa using hp
  simp [results, h, hp', asAddr, run_loadVar_row w g t' ty cs fr d hg hu hd hi, Sem.run_bind, Result.andThen]
theorem results_tmp4 {fn : Func} {t u v p : Tmp} (h : fn.results = #[.tmp t, .tmp u, .tmp v, .tmp p]) (tmps : Array Value) (P : Program) (w : World) :
    (results fn tmps).run P w = .ok (.tuple #[tmps.getD t undef, tmps.getD u undef, tmps.getD v undef, tmps.getD p undef]) w := by
  simp [results, h]
end

/-- An api.Error of this place stands at the end of what is new. -/
def NewErr (w : World) (k : Nat) (n m : Int) (v : Value) (w' : World) : Prop := ∃ b, v = .iface 135 (.pointer (some ⟨b, 0, none⟩)) ∧ ErrAt w' b n m (codeV k) ∧ Fr [] w w' ∧ w.heap.size ≤ b

theorem bNew_no (tv : Nat) (x : Value) (kind : Int) (h0 : kind ≠ 0) (h1 : kind ≠ 1) (w : World) : Calls Tryz.prog 79 #[.iface tv x, .int .i64 kind] w fun e w' => e = .returned (.tuple #[.nilIface, .iface 138 (.int .i64 15)]) ∧ Fr [] w w' := by
  have e0 : (kind == 0) = false := by simpa using h0
  have e1 : (kind == 1) = false := by simpa using h1
  go_enter Tryz.func79, Tryz.ntmps79
  go_wp2_with (go_at_call 111; refine (feedOf_any _ _ _).mono ?_; rintro e w' ⟨rfl, rfl⟩)
  all_goals go_ret2
  all_goals exact ⟨rfl, (Fr.alloc [] w _).alloc' _⟩

theorem fBits_no (tv : Nat) (x : Value) (kind : Int) (h0 : kind ≠ 0) (h1 : kind ≠ 1) (w : World) : Calls Tryz.prog 51 #[.iface tv x, .int .i64 kind] w fun e w' => ∃ v, e = .returned (.tuple #[.nilIface, v]) ∧ NewErr w 15 (-1) 0 v w' := by
  go_enter Tryz.func51, Tryz.ntmps51
  go_wp2_with (go_at_call 79; refine (bNew_no _ _ kind h0 h1 _).mono ?_; rintro e w1 ⟨rfl, hf⟩)
  go_ret2
  exact ⟨_, rfl, w1.heap.size, rfl, ⟨(Blk.new w1 _ _).cell 0, (Blk.new w1 _ _).cell 1, (Blk.new w1 _ _).cell 2⟩, hf.alloc' _, hf.size⟩

theorem fSums_no (s : ByteArray) (n : Int) (kind : Int) (h0 : kind ≠ 0) (h1 : kind ≠ 1) (w : World) : Calls Tryz.prog 32 #[.string s, .int .i64 kind, .int .i64 n] w fun e w' => ∃ v, e = .returned (.tuple #[.int .u8 0, .int .u16 0, .string ⟨#[]⟩, v]) ∧ NewErr w 15 (-1) 0 v w' := by
  go_enter Tryz.func32, Tryz.ntmps32
  go_wp2_with fail
  refine bodyPost_ret (results_tmp4 rfl _ _ _) rfl ?_
  exact ⟨_, rfl, w.heap.size, rfl, ⟨(Blk.new w _ _).cell 0, (Blk.new w _ _).cell 1, (Blk.new w _ _).cell 2⟩, Fr.alloc [] w _, Nat.le_refl _⟩

theorem fault_of (w0 : World) (k : Nat) (n m : Int) (v : Value) (hk : 0 < k) (hk2 : k < 17) (hn : OkN n) (hm : OkN m) (w : World) (hg : Gl w0) (he : NewErr w0 k n m v w) :
    Calls Tryz.prog 33 #[v] w fun e w' => e = .returned (.agg #[.int .i64 k, .int .i64 n, .int .i64 m]) ∧ Fr [] w0 w' := by
  obtain ⟨b, rfl, he, hf, _⟩ := he
  exact (fault_any b k n m hk hk2 hn hm w (hg.keep hf (by simp) (by simp)) he).mono fun e w' ⟨h1, h2⟩ => ⟨h1, hf.same h2⟩

theorem pSums_no (s : ByteArray) (n : Int) (kind : Int) (h0 : kind ≠ 0) (h1 : kind ≠ 1) (w : World) (hg : Gl w) : Calls Tryz.prog 12 #[.string s, .int .i64 kind, .int .i64 n] w fun e w' =>
    e = .returned (.tuple #[.int .i64 0, .int .i64 0, .string ⟨#[]⟩, .agg #[.int .i64 15, .int .i64 (-1), .int .i64 0]]) ∧ Fr [] w w' := by
  go_enter Tryz.func12, Tryz.ntmps12
  have hg0 := hg.keep (Fr.alloc [] w (.cells #[.int .i64 0, .int .i64 0, .int .i64 0] 23)) (by simp) (by simp)
  have hb0 := Blk.new w #[.int .i64 0, .int .i64 0, .int .i64 0] 23
  have hF0 := Fr.alloc [] w (.cells #[.int .i64 0, .int .i64 0, .int .i64 0] 23)
  go_wp2_with (first
    | (go_at_call 32; refine (fSums_no _ _ _ h0 h1 _).mono ?_; rintro e w1 ⟨v, rfl, he⟩)
    | (go_at_call 33; refine (fault_of _ 15 _ _ _ (by decide) (by decide) (.inl rfl) (.inr ⟨by decide, by decide⟩) _ hg0 he).mono ?_; rintro e w2 ⟨rfl, hf2⟩; have hb2 := hf2.blk hb0 (by simp); have hc2 := hb2.cell; have hz2 := hb2.frozen))
  refine bodyPost_ret (results_tttc rfl _ _ w.heap.size 23 #[.int .i64 15, .int .i64 (-1), .int .i64 0] (0, 0) _ rfl (((hb2.set 0 _).set 1 _).set 2 _) Tryz.underlying23 rfl (by kernel_rfl)) rfl ?_
  exact ⟨rfl, (((hF0.same hf2).setNew _ (Nat.le_refl _)).setNew _ (Nat.le_refl _)).setNew _ (Nat.le_refl _)⟩

set_option maxHeartbeats 4000000 in
theorem NewBits_no {ct : ByteArray} {a : Option Addr} {cl cap : Nat} {cb : Int} (kind : Int) (h0 : kind ≠ 0) (h1 : kind ≠ 1) (w : World) (hg : Gl w) : Calls Tryz.prog 21 #[.agg #[.string ct, .slice a cl cap, .int .i64 cb], .int .i64 kind] w fun e w' =>
    e = .returned (.tuple #[.pointer none, .agg #[.int .i64 15, .int .i64 (-1), .int .i64 0]]) ∧ Fr [] w w' := by
  go_enter Tryz.func21, Tryz.ntmps21
  have hF := ((Fr.alloc [] w (.cells #[.string ct, .slice a cl cap, .int .i64 cb] 33)).alloc' (.cells #[.int .i64 0, .int .i64 0, .int .i64 0] 23)).alloc' (.cells #[.string ct, .slice a cl cap, .int .i64 cb, .int .i64 0, .int .i64 0, .int .i64 0, .bool false] 101)
  have hb00 := (Blk.new (w.alloc (.cells #[.string ct, .slice a cl cap, .int .i64 cb] 33)) #[.int .i64 0, .int .i64 0, .int .i64 0] 23).alloc (.cells #[.string ct, .slice a cl cap, .int .i64 cb, .int .i64 0, .int .i64 0, .int .i64 0, .bool false] 101)
  have hb0 := hb00
  rw [show (w.alloc (.cells #[.string ct, .slice a cl cap, .int .i64 cb] 33)).heap.size = w.heap.size + 1 by simp] at hb0
  clear hb00
  go_wp2_with (first
    | (go_at_call 51; refine (fBits_no _ _ _ h0 h1 _).mono ?_; rintro e w1 ⟨v, rfl, he⟩)
    | (go_at_call 33; refine (fault_of _ 15 _ _ _ (by decide) (by decide) (.inl rfl) (.inr ⟨by decide, by decide⟩) _ (hg.keep hF (by simp) (by simp)) he).mono ?_; rintro e w2 ⟨rfl, hf2⟩; have hb2 := hf2.blk hb0 (by simp); have hc2 := hb2.cell; have hz2 := hb2.frozen; have hl2 := hb2.lt; have hne2 := Nat.ne_of_lt hl2; have hne3 := Nat.ne_of_gt hl2))
  go_region
  all_goals go_wp2_with fail
  refine bodyPost_ret (results_tc rfl _ _ (w.heap.size + 1) 23 #[.int .i64 15, .int .i64 (-1), .int .i64 0] (0, 0) _ rfl (((((hb2.set 0 _).set 1 _).set 2 _).alloc _).drewN 1) Tryz.underlying23 rfl (by kernel_rfl)) rfl ?_
  exact ⟨rfl, (((((hF.same hf2).setNew _ (by simp)).setNew _ (by simp)).setNew _ (by simp)).alloc' _).drew'⟩

end Go.Proofs.YthigfpaajbejdaaGreatDoor
