/-
  feed.Of: a feed that has fetched nothing.
-/
/-
  No such kind: Bits and Sums are refused, with ErrArg and its place.
-/
import Derived.Test.YtnjebaaebhlibaaGreatDoorBase
import Derived.Test.YtnjebaaebhlibaaGreatDoorProg
import Derived.Test.YtnjebaaebhlibaaGreatDoorFaultW
namespace Go.Proofs.YtnjebaaebhlibaaGreatDoor
open Go.RowKit

theorem feedOf_any (tv : Nat) (x : Value) (w : World) : Calls Tryz.prog 29 #[.iface tv x] w fun e w' => e = .returned (.pointer (some ⟨w.heap.size, 0, none⟩)) ∧ w' = w.alloc (.cells #[.iface tv x, .string ⟨#[]⟩, .nilIface, .slice none 0 0, .int .i64 0] 140) := by
  go_enter Tryz.func29, Tryz.ntmps29
  go_wp2
  go_ret
  exact ⟨rfl, rfl⟩
end Go.Proofs.YtnjebaaebhlibaaGreatDoor
namespace Go.Proofs.YtnjebaaebhlibaaGreatDoor
open Go.RowKit

section
variable {P : Program}
theorem results_tc {fn : Func} {t p : Tmp} {ty : TypeId} (h : fn.results = #[.tmp t, .cell p ty]) (tmps : Array Value) (w : World) (g : Nat) (t' : TypeId) (cs : Array Value) (fr : Nat × Nat) (d : TypeDesc)
    (hp : tmps.getD p undef = .pointer (some ⟨g, 0, none⟩)) (hg : w.heap[g]? = some (.cells cs t' fr))
    (hu : P.underlying ty = some d) (hd : (match d with | .struct _ | .array _ _ => true | _ => false) = true) (hi : (P.info? ty).map (·.size) = some cs.size) :
    (results fn tmps).run P w = .ok (.tuple #[tmps.getD t undef, .agg cs]) w := by
  have hp' : tmps[p]?.getD undef = .pointer (some ⟨g, 0, none⟩) := by simpa using hp
  simp [results, h, hp', asAddr, run_loadVar_row w g t' ty cs fr d hg hu hd hi, Sem.run_bind, Result.andThen]
theorem results_tttc {fn : Func} {t u v p : Tmp} {ty : TypeId} (h : fn.results = #[.tmp t, .tmp u, .tmp v, .cell p ty]) (tmps : Array Value) (w : World) (g : Nat) (t' : TypeId) (cs : Array Value) (fr : Nat × Nat) (d : TypeDesc)
    (hp : tmps.getD p undef = .pointer (some ⟨g, 0, none⟩)) (hg : w.heap[g]? = some (.cells cs t' fr))
    (hu : P.underlying ty = some d) (hd : (match d with | .struct _ | .array _ _ => true | _ => false) = true) (hi : (P.info? ty).map (·.size) = some cs.size) :
    (results fn tmps).run P w = .ok (.tuple #[tmps.getD t undef, tmps.getD u undef, tmps.getD v undef, .agg cs]) w := by
  have hp' : tmps[p]?.getD undef = .pointer (some ⟨g, 0, none⟩) := by simpa using hp
  simp [results, h, hp', asAddr, run_loadVar_row w g t' ty cs fr d hg hu hd hi, Sem.run_bind, Result.andThen]
theorem results_tmp4 {fn : Func} {t u v p : Tmp} (h : fn.results = #[.tmp t, .tmp u, .tmp v, .tmp p]) (tmps : Array Value) (P : Program) (w : World) :
    (results fn tmps).run P w = .ok (.tuple #[tmps.getD t undef, tmps.getD u undef, tmps.getD v undef, tmps.getD p undef]) w := by
  simp [results, h]
end

/-- An api.Error of this place stands at the end of what is new. -/
def NewErr (w : World) (k : Nat) (n m : Int) (v : Value) (w' : World) : Prop := ∃ b, v = .iface 75 (.pointer (some ⟨b, 0, none⟩)) ∧ ErrAt w' b n m (codeV k) ∧ Fr [] w w' ∧ w.heap.size ≤ b

theorem bNew_no (tv : Nat) (x : Value) (kind : Int) (h0 : kind ≠ 0) (h1 : kind ≠ 1) (w : World) : Calls Tryz.prog 20 #[.iface tv x, .int .i64 kind] w fun e w' => e = .returned (.tuple #[.nilIface, .iface 113 (.int .i64 15)]) ∧ Fr [] w w' := by
  have e0 : (kind == 0) = false := by simpa using h0
  have e1 : (kind == 1) = false := by simpa using h1
  go_enter Tryz.func20, Tryz.ntmps20
  go_wp2_with (go_at_call 29; refine (feedOf_any _ _ _).mono ?_; rintro e w' ⟨rfl, rfl⟩)
  all_goals go_ret2
  all_goals exact ⟨rfl, (Fr.alloc [] w _).alloc' _⟩

theorem fault_of (w0 : World) (k : Nat) (n m : Int) (v : Value) (hk : 0 < k) (hk2 : k < 17) (hn : OkN n) (hm : OkN m) (w : World) (hg : Gl w0) (he : NewErr w0 k n m v w) :
    Calls Tryz.prog 10 #[v] w fun e w' => e = .returned (.agg #[.int .i64 k, .int .i64 n, .int .i64 m]) ∧ Fr [] w0 w' := by
  obtain ⟨b, rfl, he, hf, _⟩ := he
  exact (fault_any b k n m hk hk2 hn hm w (hg.keep hf (by simp) (by simp)) he).mono fun e w' ⟨h1, h2⟩ => ⟨h1, hf.same h2⟩

end Go.Proofs.YtnjebaaebhlibaaGreatDoor
