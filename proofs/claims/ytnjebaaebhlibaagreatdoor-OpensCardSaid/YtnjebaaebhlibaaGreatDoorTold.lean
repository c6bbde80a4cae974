/-
  Both readers as one; flac.told, walked.
-/
import Derived.Test.YtnjebaaebhlibaaGreatDoorFastUnary
import Derived.Test.YtnjebaaebhlibaaGreatDoorRefuseB
namespace Go.Proofs.YtnjebaaebhlibaaGreatDoor
open Go.RowKit

section
variable {B : Nat} {w w' : World} {rb bs : Nat} {c : Cfg} {p : Nat} {S T : List Nat}
theorem SlowS.keep (h : SlowS B w rb bs c p S) (hf : Fr T w w') (hT : ∀ x ∈ S, x ∉ T) (hB : ∀ x ∈ T, B ≤ x) : SlowS B w' rb bs c p S := by
  obtain ⟨fb, tk, kk, ft, left, k, err, v, xs, h, h1, h2, rfl⟩ := h
  exact ⟨fb, tk, kk, ft, left, k, err, v, xs, ⟨hf.blk h.blk (hT _ (by simp)), h.feed.keep hf (hT _ (by simp)) (hT _ (by simp)) (fun g hg => hT _ (by simp [hg])) hB, h.above, h.lt⟩, h1, h2, rfl⟩
theorem FastS.keep (h : FastS B w rb bs c p S) (hf : Fr T w w') (hT : ∀ x ∈ S, x ∉ T) (hB : ∀ x ∈ T, B ≤ x) : FastS B w' rb bs c p S := by
  obtain ⟨fb, tk, kk, ft, left, k, err, v, xs, h, rfl⟩ := h
  exact ⟨fb, tk, kk, ft, left, k, err, v, xs, ⟨hf.blk h.blk (hT _ (by simp)), h.feed.keep hf (hT _ (by simp)) (hT _ (by simp)) (fun g hg => hT _ (by simp [hg])) hB, h.above, h.pos, h.n64, h.inft⟩, rfl⟩
theorem FeedV.own_lt {fb tk ft left k err emp : Nat} {v : Value} {xs : List Value} (h : FeedV B w fb bs c tk ft left k err emp v xs) : ∀ g ∈ v.ownBlock.toList, g < w.heap.size := fun g hg => by
  have hg' : v.ownBlock = some g := by simpa using hg
  rcases h.own.2 with ⟨rfl, _⟩ | ⟨g0, cap, cur, rfl, hb, hh, _⟩
  · cases hg'
  · have : g0 = g := Option.some.inj hg'
    exact this ▸ (Array.getElem?_eq_some_iff.1 hh).1
theorem FeedV.all {rb fb tk ft left k err emp : Nat} {v : Value} {xs : List Value} (h : FeedV B w fb bs c tk ft left k err emp v xs) (h1 : B ≤ rb) (h2 : rb < w.heap.size) : ∀ x ∈ rb :: fb :: bs :: v.ownBlock.toList, B ≤ x ∧ x < w.heap.size := by
  intro x hx
  obtain ⟨a, cap, hb, _⟩ := h.src.row
  simp only [List.mem_cons] at hx
  rcases hx with rfl | rfl | rfl | hx
  · exact ⟨h1, h2⟩
  · exact ⟨h.above, h.blk.lt⟩
  · exact ⟨h.src.above, hb.lt⟩
  · exact ⟨h.own_above x hx, h.own_lt x hx⟩
end

/-- A reader of either kind (q: the quick one). -/
def RdS (q : Bool) (B : Nat) (w : World) (rb bs : Nat) (c : Cfg) (p : Nat) (S : List Nat) : Prop :=
  match q with
  | true => FastS B w rb bs c p S
  | false => SlowS B w rb bs c p S
def rdT (q : Bool) : Nat := match q with | true => 109 | false => 106
def rdRead (q : Bool) : Nat := match q with | true => 125 | false => 114
theorem rd_meth_Read (q : Bool) (a : Addr) (w : World) : (Go.method 327 (rdT q) (.pointer (some a)) "Read").run Tryz.prog w = .ok (rdRead q, .pointer (some a)) w := by
  cases q <;> kernel_rfl
def rdUnary (q : Bool) : Nat := match q with | true => 126 | false => 115
theorem rd_meth_Unary (q : Bool) (a : Addr) (w : World) : (Go.method 327 (rdT q) (.pointer (some a)) "Unary").run Tryz.prog w = .ok (rdUnary q, .pointer (some a)) w := by
  cases q <;> kernel_rfl
def rdAlign (q : Bool) : Nat := match q with | true => 123 | false => 112
theorem rd_meth_Align (q : Bool) (a : Addr) (w : World) : (Go.method 327 (rdT q) (.pointer (some a)) "Align").run Tryz.prog w = .ok (rdAlign q, .pointer (some a)) w := by
  cases q <;> kernel_rfl
def rdAt (q : Bool) : Nat := match q with | true => 124 | false => 113
theorem rd_meth_At (q : Bool) (a : Addr) (w : World) : (Go.method 327 (rdT q) (.pointer (some a)) "At").run Tryz.prog w = .ok (rdAt q, .pointer (some a)) w := by
  cases q <;> kernel_rfl

section
variable {q : Bool} {B : Nat} {w w' : World} {rb bs : Nat} {c : Cfg} {p : Nat} {S T : List Nat}
theorem RdS.keep (h : RdS q B w rb bs c p S) (hf : Fr T w w') (hT : ∀ x ∈ S, x ∉ T) (hB : ∀ x ∈ T, B ≤ x) : RdS q B w' rb bs c p S := by
  cases q
  · exact SlowS.keep h hf hT hB
  · exact FastS.keep h hf hT hB
theorem RdS.still (h : RdS q B w rb bs c p S) (hf : Fr [] w w') : RdS q B w' rb bs c p S := h.keep hf (by simp) (by simp)
/-- What holds of the reader's feed. -/
theorem RdS.feed (h : RdS q B w rb bs c p S) : ∃ fb tk ft left k err v xs, FeedV B w fb bs c tk ft left k err 0 v xs ∧ B ≤ rb ∧ rb < w.heap.size ∧ S = rb :: fb :: bs :: v.ownBlock.toList ∧ p ≤ 8 * c.lim.1 := by
  cases q
  · obtain ⟨fb, tk, kk, ft, left, k, err, v, xs, h, h1, h2, rfl⟩ := h
    exact ⟨fb, tk, ft, left, k, err, v, xs, h.feed, h.above, h.blk.lt, rfl, h2⟩
  · obtain ⟨fb, tk, n, ft, left, k, err, v, xs, h, rfl⟩ := h
    have := h.lim
    exact ⟨fb, tk, ft, left, k, err, v, xs, h.feed, h.above, h.blk.lt, rfl, by omega⟩
theorem RdS.all (h : RdS q B w rb bs c p S) : ∀ x ∈ S, B ≤ x ∧ x < w.heap.size := by
  obtain ⟨fb, tk, ft, left, k, err, v, xs, hv, h1, h2, rfl, _⟩ := h.feed
  exact hv.all h1 h2
theorem RdS.lim (h : RdS q B w rb bs c p S) : p ≤ 8 * c.lim.1 ∧ c.lim.1 ≤ c.len ∧ c.len ≤ 1048576 := by
  obtain ⟨fb, tk, ft, left, k, err, v, xs, hv, h1, h2, _, h3⟩ := h.feed
  exact ⟨h3, hv.lim_len, hv.ft_le.2⟩
theorem RdS.mem_bs (h : RdS q B w rb bs c p S) : bs ∈ S := by
  obtain ⟨fb, tk, ft, left, k, err, v, xs, hv, h1, h2, rfl, h3⟩ := h.feed
  simp
theorem RdS.src (h : RdS q B w rb bs c p S) : ∃ pos left k, SrcI B w bs c pos left k := by
  obtain ⟨fb, tk, ft, left, k, err, v, xs, hv, _⟩ := h.feed
  exact ⟨_, _, _, hv.src⟩
theorem rdRead_ok (h : RdS q B w rb bs c p S) (n : Nat) (hn : n ≤ 64) (hp : p + n ≤ 8 * c.lim.1) :
    Calls Tryz.prog (rdRead q) #[.pointer (some ⟨rb, 0, none⟩), .int .i64 n] w fun e w' => e = .returned (.tuple #[.int .u64 (c.bits p n), .nilIface]) ∧ Moved (RdS q B · rb bs c) w S (p + n) w' := by
  cases q
  · exact sRead_ok h n hn hp
  · exact qRead_ok h n hn hp
theorem rdRead_not (h : RdS q B w rb bs c p S) (n : Nat) (hn : n ≤ 64) (hp : 8 * c.lim.1 < p + n) (hl : wantE c.lim.2 ≠ 0) :
    Calls Tryz.prog (rdRead q) #[.pointer (some ⟨rb, 0, none⟩), .int .i64 n] w fun e w' => e = .returned (.tuple #[.int .u64 0, .iface (errT (wantE c.lim.2)) (.int .i64 (errN (wantE c.lim.2)))]) ∧ Moved (RdS q B · rb bs c) w S p w' := by
  cases q
  · exact sRead_not h n hn hp hl
  · exact qRead_not h n hn hp hl
theorem rdRead_arg (h : RdS q B w rb bs c p S) (n : Int) (hn : n < 0 ∨ 64 < n) :
    Calls Tryz.prog (rdRead q) #[.pointer (some ⟨rb, 0, none⟩), .int .i64 n] w fun e w' => e = .returned (.tuple #[.int .u64 0, .iface (errT 15) (.int .i64 (errN 15))]) ∧ Moved (RdS q B · rb bs c) w S p w' := by
  cases q
  · refine (sRead_arg n hn w).mono ?_
    rintro e w' ⟨rfl, rfl⟩
    exact ⟨rfl, Fr.refl _ _, S, h, fun x hx => .inl hx⟩
  · refine (qRead_arg n hn w).mono ?_
    rintro e w' ⟨rfl, rfl⟩
    exact ⟨rfl, Fr.refl _ _, S, h, fun x hx => .inl hx⟩
theorem rdAt_any (h : RdS q B w rb bs c p S) :
    Calls Tryz.prog (rdAt q) #[.pointer (some ⟨rb, 0, none⟩)] w fun e w' => e = .returned (.int .i64 p) ∧ ∃ n, w' = w.drewN n := by
  cases q
  · obtain ⟨fb, tk, kk, ft, left, k, err, v, xs, h, rfl, h2, rfl⟩ := h
    exact sAt_any h
  · obtain ⟨fb, tk, n, ft, left, k, err, v, xs, h, rfl⟩ := h
    exact qAt_any h
end

theorem codeV_errV {k : Nat} (_h : k ≠ 0) (h' : k < 17) : codeV k = .iface (errT k) (.int .i64 (errN k)) := by
  unfold codeV codeT codeN errT errN
  by_cases h16 : k = 16
  · subst h16; rfl
  · rw [if_pos (by omega), if_pos (by omega), if_neg h16, if_neg h16]
end Go.Proofs.YtnjebaaebhlibaaGreatDoor
